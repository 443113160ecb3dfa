/- Several texts in one. -/
import Derived.Test.YtahicokokfcieaaGreatDoorTgAa
import Derived.Laws.AppendOwn
import Derived.Laws.OwnMore
import Derived.Laws.CopyOwn
import Derived.Deep.LoopGhost
import Derived.Deep.DeepCutAuto
import Derived.Deep.CutBlock
import Derived.Test.YtahicokokfcieaaGreatDoorProg
import Derived.Laws.EntriesVeiled
namespace Go.Proofs.YtahicokokfcieaaGreatDoor
open Go.RowKit
open Go.Proofs
set_option linter.unusedVariables false
theorem Leads.at {w : World} {a : Option Addr} {n cap k : Nat} {cs : List Value} {v : Value} (h : Leads w a n cap cs) (hk : k < n) (hv : cs[k]? = some v) : ∃ b off, a = some ⟨b, off, none⟩ ∧ b < w.heap.size ∧ ∀ w', Below w.heap.size w w' → w'.cell? ⟨b, off + k, none⟩ = some v := by
  obtain ⟨_, _, ⟨h, _⟩ | ⟨b, off, rfl, h3, h4⟩⟩ := h
  · omega
  · exact ⟨b, off, rfl, h3, fun w' hb => (hb.cell (p := ⟨b, off + k, none⟩) h3).trans (h4 k _ hv)⟩
theorem own_type {W : World} {base size n : Nat} {e : TypeId} {v : Value} {xs : List Value} (h : W.ownsRow base e size v n xs) (k : Nat) (hk : v.ownBlock = some k) : ∃ cur, W.heap[k]? = some (.cells cur e (0, 0)) := by
  rcases h.2 with ⟨rfl, _⟩ | ⟨g, cap, cur, rfl, _, hh, _⟩
  · cases hk
  · have : g = k := by simpa [Value.ownBlock] using hk
    subst this
    exact ⟨cur, hh⟩
theorem type_ne {W : World} {k k' : Nat} {cur cur' : Array Value} {e e' : TypeId} (h : W.heap[k]? = some (.cells cur e (0, 0))) (h' : W.heap[k']? = some (.cells cur' e' (0, 0))) (hne : e ≠ e') : k ≠ k' := by
  rintro rfl
  rw [h] at h'
  cases h'
  exact hne rfl
theorem wcell_at {l : List Nat} {k x : Nat} (h : l[k]? = some x) : (wcells l)[k]? = some (.int .u64 ((x : Nat) : Int)) := by unfold wcells; rw [List.getElem?_map, h]; rfl
theorem own_lt {w : World} {base n size : Nat} {e : TypeId} {v : Value} {xs : List Value} (h : w.ownsRow base e size v n xs) (k : Nat) (hk : v.ownBlock = some k) : k < w.heap.size := by
  obtain ⟨cur, hc⟩ := own_type h k hk
  exact lt_laid hc
theorem own_keep {w w' : World} {base n size : Nat} {e : TypeId} {v : Value} {xs : List Value} (h : w.ownsRow base e size v n xs) (hk : ∀ k o, v.ownBlock = some k → w.heap[k]? = some o → w'.heap[k]? = some o) : w'.ownsRow base e size v n xs := by
  refine ⟨h.1, ?_⟩
  rcases h.2 with hn | ⟨g, cap, cur, rfl, hb, hgg, rest⟩
  · exact .inl hn
  · exact .inr ⟨g, cap, cur, rfl, hb, hk g _ rfl hgg, rest⟩
theorem keep_grown {w w' : World} {b : Nat} {o : Obj} {r : Option Nat} (h : w.heap[b]? = some o) (hg : w.grownBy w' r) (hr : r ≠ some b) : w'.heap[b]? = some o :=
  (hg.block b (lt_laid h) (fun he => hr he.symm)).trans h
def Moved (w : World) (v v' : Value) : Prop := v'.ownBlock = v.ownBlock ∨ ∀ k, v'.ownBlock = some k → w.heap.size ≤ k
theorem run_append_moved {P : Program} {w : World} (base : Nat) (t ty e : TypeId) (i : TypeInfo) (z : Value) (size bytes : Nat) (ht : P.underlying t = some (.slice e)) (hi : P.info? e = some i) (hz : i.zero = some z)
    (hsize : i.size = size) (hby : i.bytes = bytes) (hzs : z.cells.size = size) (hsz : 0 < size)
    (v : Value) (n : Nat) (xs : List Value) (hown : w.ownsRow base e size v n xs)
    (a : Addr) (m c : Nat) (news : List Value) (hl : news.length = m * size) (hnews : ∀ j u, news[j]? = some u → w.cell? (a.add j) = some u) (h1 : ∀ u ∈ news, u.oneCell' = true)
    (h63 : n + m ≤ maxLen) (hbytes : (n + m) * bytes ≤ 140737488355328) (hbase : base ≤ w.heap.size) :
    ∃ v' w', (Builtin.append_ #[t, t] ty #[v, .slice (some a) m c]).run P w = .ok v' w' ∧ w'.ownsRow base e size v' (n + m) (xs ++ news) ∧ w.grownBy w' v.ownBlock ∧ Moved w v v' := by
  obtain ⟨v', w', hr, h2, h3, -⟩ := run_append_own (P := P) (w := w) base t ty e i z size bytes ht hi hz hsize hby hzs hsz v n xs hown a m c news hl hnews h1 h63 hbytes hbase
  refine ⟨v', w', hr, h2, h3, ?_⟩
  rcases hown.2 with ⟨hv, hn⟩ | ⟨g, cap, cur, hv, hbg, hg, hnc, hcm, hcs, htake⟩
  · subst hv
    subst hn
    have hx : xs = [] := List.eq_nil_of_length_eq_zero (by simpa using hown.1)
    subst hx
    obtain ⟨v2, w2, hr2, h4, -, -⟩ := run_append_own (P := P) (w := w) w.heap.size t ty e i z size bytes ht hi hz hsize hby hzs hsz (.slice none 0 0) 0 [] (World.ownsRow_nil _ _ _ _) a m c news hl hnews h1 h63 hbytes (Nat.le_refl _)
    rw [hr] at hr2
    obtain ⟨rfl, rfl⟩ : v' = v2 ∧ w' = w2 := by simpa using hr2
    exact .inr fun k hk => (h4.lt k hk).1
  · subst hv
    by_cases hroom : n + m ≤ cap
    · have hfit : n * i.size + news.length ≤ cur.size := by rw [hl, hcs, hsize, ← Nat.add_mul]; exact Nat.mul_le_mul_right _ hroom
      have hr2 := run_append_room (P := P) w t ty e i ht hi g n cap cur hg a m c news (by rw [hsize]; exact hl) hnews h1 hroom hfit
      rw [hr] at hr2
      have e1 : v' = .slice (some ⟨g, 0, none⟩) (n + m) cap := by
        have := hr2
        simp only [Result.ok.injEq] at this
        exact this.1
      rw [e1]
      exact .inl rfl
    · have hlx : xs.length = n * i.size := by rw [hsize]; exact hown.1
      have holds : ∀ j u, xs[j]? = some u → w.cell? ((⟨g, 0, none⟩ : Addr).add j) = some u := hown.cells (g := g) rfl
      have hsmall : n + m ≤ 9223372036854775807 := by simp only [maxLen] at h63; omega
      have hr2 := run_append_grow (P := P) w t ty e i z ht hi hz ⟨g, 0, none⟩ n cap xs hlx holds a m c news (by rw [hsize]; exact hl) hnews (by omega) (by omega) (growslice_fits (by omega) (by rw [hby]; exact hbytes))
      rw [hr] at hr2
      simp only [Result.ok.injEq] at hr2
      rw [hr2.1]
      exact .inr fun k hk => by
        have : w.heap.size = k := by simpa [Value.ownBlock] using hk
        omega
theorem wp_appendM {P : Program} {w : World} {ops : Array Oper} {rest : List Oper} {o : Oper} {a : Act} {Q : Exit → Act → World → Prop} {t e : TypeId} {size bytes : Nat} (I : Elem P t e size bytes) (hgd : o.guard = none) (s x : Operand)
    (ho : o.op = .call { callee := .builtin .append, args := #[s, x], argTypes := #[t, t] })
    (base : Nat) (v : Value) (n : Nat) (xs : List Value) (hs : a.eval s = v) (hown : w.ownsRow base e size v n xs)
    (ad : Addr) (m c : Nat) (news : List Value) (hx : a.eval x = .slice (some ad) m c) (hl : news.length = m * size) (hnews : ∀ (j : Nat) u, news[j]? = some u → w.cell? (ad.add j) = some u) (h1 : ∀ u ∈ news, u.oneCell' = true)
    (hn : n + m ≤ 1000000) (hbase : base ≤ w.heap.size)
    (h : ∀ v' w', w'.ownsRow base e size v' (n + m) (xs ++ news) → w.grownBy w' v.ownBlock → Moved w v v' → wpList P ops Q rest (a.put o.dst v') w') : wpList P ops Q (o :: rest) a w := by
  obtain ⟨i, z, hi, hz, h2, h3, h4⟩ := I.info
  refine wpList_plain hgd fun K hK => ?_
  have hbt : (n + m) * bytes ≤ 140737488355328 := by
    have := Nat.mul_le_mul hn I.small
    omega
  obtain ⟨v', w', hr, k2, k3, k4⟩ := run_append_moved (P := P) (w := w) base t o.type e i z size bytes I.under hi hz h2 h3 h4 I.pos v n xs hown ad m c news hl hnews h1 (by unfold maxLen; omega) hbt hbase
  unfold Oper.wp execOp
  simp only [ho, resolve, invoke, builtin, Sem.run_bind, Sem.run_pure, Result.andThen_ok, List.map_toArray, List.map_cons, List.map_nil, hs, hx, hr]
  exact hK _ _ (h v' w' k2 k3 k4)
def Fresh (e : TypeId) (size n : Nat) (cs : List Value) (w : World) (en : Ending) (w' : World) : Prop :=
  ∃ v, en = .returned v ∧ w'.ownsRow w.heap.size e size v n cs ∧ Below w.heap.size w w'
theorem cell_add {w : World} {b o j : Nat} {v : Value} (h : w.cell? ⟨b, o + j, none⟩ = some v) : w.cell? ((⟨b, o, none⟩ : Addr).add j) = some v := by
  rcases j with _ | j
  · simpa [Addr.add] using h
  · simpa [Addr.add] using h
theorem Leads.of_own1 {W : World} {base : Nat} {e : TypeId} {size n cap : Nat} {a : Option Addr} {xs : List Value} (h : W.ownsRow base e size (.slice a n cap) n xs) : Leads W a n cap xs := by
  obtain ⟨a', c', e, hl⟩ := Leads.of_own h
  simp only [Value.slice.injEq, true_and] at e
  obtain ⟨rfl, rfl⟩ := e
  exact hl
theorem Leads.vtake {w : World} {a : Option Addr} {n c m : Nat} {l : List Value} (h : Leads w a n c l) (hl : l.length = n) (hm : m ≤ n) : Leads w a m c (l.take m) := by
  obtain ⟨h1, h2, ⟨h3, h4⟩ | ⟨b, off, h3, h4, h5⟩⟩ := h
  · obtain rfl : m = 0 := by omega
    exact ⟨by omega, h2, .inl ⟨rfl, by simp⟩⟩
  · refine ⟨by omega, h2, .inr ⟨b, off, h3, h4, fun i v hv => h5 i v ?_⟩⟩
    rw [List.getElem?_take] at hv
    split at hv
    · exact hv
    · cases hv
theorem take_snoc {α : Type} {l : List α} {k : Nat} {x : α} (h : l[k]? = some x) : l.take (k + 1) = l.take k ++ [x] := by rw [List.take_add_one, h]; rfl
theorem wcells_one (l : List Nat) : ∀ u ∈ wcells l, u.oneCell' = true := by
  intro u hu
  obtain ⟨x, -, rfl⟩ := List.mem_map.1 hu
  rfl
theorem wcells_len (l : List Nat) : (wcells l).length = l.length := by simp [wcells]
theorem wcells_app (l r : List Nat) : wcells (l ++ r) = wcells l ++ wcells r := by simp [wcells]
theorem wcells_set (l : List Nat) (i x : Nat) : (wcells l).set i (.int .u64 ((x : Nat) : Int)) = wcells (l.set i x) := by simp [wcells, List.map_set]
def bcells (l : List Bool) : List Value := l.map Value.bool
theorem bcell_at {l : List Bool} {k : Nat} {x : Bool} (h : l[k]? = some x) : (bcells l)[k]? = some (.bool x) := by unfold bcells; rw [List.getElem?_map, h]; rfl
theorem bcells_one (l : List Bool) : ∀ u ∈ bcells l, u.oneCell' = true := by
  intro u hu
  obtain ⟨x, -, rfl⟩ := List.mem_map.1 hu
  rfl
theorem bcells_len (l : List Bool) : (bcells l).length = l.length := by simp [bcells]
/-- Values are put into a variable of one's own, cell by cell. -/
theorem put2 {V : World} {Y : Nat} {z0 z1 : Value} {T : TypeId} (h : V.heap[Y]? = some (.cells #[z0, z1] T (0, 0))) (v0 v1 : Value) :
    ∃ V', V' = (V.setCell ⟨Y, 0, none⟩ v0).setCell ⟨Y, 1, none⟩ v1 ∧ V'.heap[Y]? = some (.cells #[v0, v1] T (0, 0)) ∧ (∀ (k : Nat) (o : Obj), k ≠ Y → V.heap[k]? = some o → V'.heap[k]? = some o) ∧ ∀ (B : Nat) (w : World), B ≤ Y → Below B w V → Below B w V' := by
  have h0 := set_laid (i := 0) h v0
  exact ⟨_, rfl, set_laid (i := 1) h0 v1, fun k o hk ho => other_laid (other_laid ho hk _) hk _, fun B w hB hb => (hb.setCell hB _).setCell hB _⟩
theorem put4 {V : World} {Y : Nat} {z0 z1 z2 z3 : Value} {T : TypeId} (h : V.heap[Y]? = some (.cells #[z0, z1, z2, z3] T (0, 0))) (v0 v1 v2 v3 : Value) :
    ∃ V', V' = (((V.setCell ⟨Y, 0, none⟩ v0).setCell ⟨Y, 1, none⟩ v1).setCell ⟨Y, 2, none⟩ v2).setCell ⟨Y, 3, none⟩ v3 ∧ V'.heap[Y]? = some (.cells #[v0, v1, v2, v3] T (0, 0)) ∧ (∀ (k : Nat) (o : Obj), k ≠ Y → V.heap[k]? = some o → V'.heap[k]? = some o) ∧ ∀ (B : Nat) (w : World), B ≤ Y → Below B w V → Below B w V' := by
  have h0 := set_laid (i := 0) h v0
  have h1 := set_laid (i := 1) h0 v1
  have h2 := set_laid (i := 2) h1 v2
  exact ⟨_, rfl, set_laid (i := 3) h2 v3, fun k o hk ho => other_laid (other_laid (other_laid (other_laid ho hk _) hk _) hk _) hk _, fun B w hB hb => (((hb.setCell hB _).setCell hB _).setCell hB _).setCell hB _⟩
/-- A copy into a block of one's own; all other blocks stay. -/
theorem wp_copyK {P : Program} {w : World} {ops : Array Oper} {rest : List Oper} {o : Oper} {a : Act} {Q : Exit → Act → World → Prop} (hgd : o.guard = none) (d s : Operand) (dT sT : TypeId)
    (ho : o.op = .call { callee := .builtin .copy, args := #[d, s], argTypes := #[dT, sT] }) (elem : TypeId) (hu : P.underlying dT = some (.slice elem)) (hsz : (P.info? elem).map (·.size) = some 1)
    (dp sp : Option Addr) (dLen dCap sLen sCap : Nat) (hd : a.eval d = .slice dp dLen dCap) (hs : a.eval s = .slice sp sLen sCap)
    (g off : Nat) (cur : List Value) (t : TypeId) (hg : w.heap[g]? = some (.cells cur.toArray t (0, 0))) (cs : List Value) (hn : cs.length = Nat.min sLen dLen)
    (hpos : 0 < cs.length → dp = some ⟨g, off, none⟩ ∧ ∃ ad, sp = some ad ∧ ∀ j v, cs[j]? = some v → w.cell? (ad.add j) = some v)
    (hfit : off + cs.length ≤ cur.length) (h1 : ∀ v ∈ cs, v.oneCell' = true)
    (h : ∀ w', Hid (w'.heap[g]? = some (.cells (splice cur off cs).toArray t (0, 0)) ∧ (∀ k, k ≠ g → w'.heap[k]? = w.heap[k]?) ∧ ∀ (B : Nat) (w0 : World), B ≤ g → Below B w0 w → Below B w0 w') → wpList P ops Q rest (a.put o.dst (goInt cs.length)) w') :
    wpList P ops Q (o :: rest) a w := by
  by_cases h0 : cs.length = 0
  · obtain rfl : cs = [] := List.eq_nil_of_length_eq_zero h0
    refine wpList_copy_nothing hgd d s dT sT ho elem hu hsz dp sp dLen dCap sLen sCap hd hs (by simpa using hn.symm) ?_
    exact h w (hid ⟨by simpa [splice] using hg, fun k _ => rfl, fun B w0 _ hb => hb⟩)
  · obtain ⟨rfl, ad, rfl, hsrc⟩ := hpos (by omega)
    refine wpList_copy_own hgd d s dT sT ho elem hu hsz g off dLen dCap ad sLen sCap hd hs cur.toArray t hg cs hn hsrc (by simpa using hfit) h1 ?_
    exact h _ (hid ⟨by simpa [splice] using setRow_heap w g _ _ t _ hg, fun k hk => setRow_other w g k _ hk, fun B w0 hB hb => below_setRow hb hB _⟩)
end Go.Proofs.YtahicokokfcieaaGreatDoor
namespace Go.Proofs.YtahicokokfcieaaGreatDoor
open Go.RowKit
open Go.Proofs
set_option linter.unusedVariables false
/-- A memory: its words, which are live, and whether there was a fault. -/
structure Mem where
  W : List Nat
  L : List Bool
  F : Bool
abbrev poison : Nat := 18369900232523579118
def wordOk (p : Nat × Bool) : Bool := p.2 || (decide (p.1 = 0) || decide (p.1 = poison))
def okM (M : Mem) : Bool := decide (1 ≤ M.W.length) && (decide (M.W.length ≤ 4096) && (decide (M.L.length = M.W.length) && (M.W.zip M.L).all wordOk))
/-- It lies here. -/
structure MemL (V : World) (wa : Option Addr) (wc : Nat) (la : Option Addr) (lc : Nat) (M : Mem) : Prop where
  w : Leads V wa M.W.length wc (wcells M.W)
  l : Leads V la M.L.length lc (bcells M.L)
def memV (wa : Option Addr) (wc : Nat) (la : Option Addr) (lc : Nat) (M : Mem) : Value := .agg #[.slice wa M.W.length wc, .slice la M.L.length lc, .bool M.F]
theorem MemL.grow {V V' : World} {wa la : Option Addr} {wc lc : Nat} {M : Mem} (h : MemL V wa wc la lc M) (hb : Below V.heap.size V V') : MemL V' wa wc la lc M := ⟨h.w.grow hb, h.l.grow hb⟩
theorem okM_spec {M : Mem} (h : okM M = true) : 1 ≤ M.W.length ∧ M.W.length ≤ 4096 ∧ M.L.length = M.W.length ∧ (M.W.zip M.L).all wordOk = true := by
  unfold okM at h
  simp only [Bool.and_eq_true, decide_eq_true_eq] at h
  exact ⟨h.1, h.2.1, h.2.2.1, h.2.2.2⟩
theorem Check1_any (x k n : Nat) (b : Bool) (la : Option Addr) (lc X : Nat) (V : World) (L : List Bool) (hc : V.cell? ⟨X, 1, none⟩ = some (.slice la n lc)) (hl : Leads V la n lc (bcells L)) (hk : k < n) (hb : L[k]? = some b) :
    Calls Tryz.prog 73 #[.int .i64 (k : Nat), .int .u64 (x : Nat), .pointer (some ⟨X, 0, none⟩)] V (fun e V' => e = .returned (.bool (wordOk (x, b))) ∧ V' = V) := by
  obtain ⟨b', off, rfl, -, hcc⟩ := hl.at hk (bcell_at hb)
  have f1 := hcc V (Below.refl _ _)
  have hn := hl.len
  clear hcc hl hb
  unfold wordOk
  dsimp only
  cases b
  case' true =>
    go_enter Tryz.func73, Tryz.ntmps73
    go_wp2
    go_ret
    exact ⟨rfl, rfl⟩
  case' false =>
    by_cases h0 : x = 0
    · subst h0
      go_enter Tryz.func73, Tryz.ntmps73
      go_wp2
      go_ret
      exact ⟨rfl, rfl⟩
    · have t0 : (((x : Nat) : Int) == 0) = false := by simp; omega
      by_cases h1 : x = poison
      · have t1 : (((x : Nat) : Int) == 18369900232523579118) = true := by rw [h1]; rfl
        have HD : Hid ((false || (decide (x = 0) || decide (x = poison))) = true) := hid (by rw [decide_eq_true h1]; simp)
        clear h0 h1
        go_enter Tryz.func73, Tryz.ntmps73
        go_wp2
        go_ret
        exact ⟨retb HD.out.symm, rfl⟩
      · have t1 : (((x : Nat) : Int) == 18369900232523579118) = false := by simp; unfold poison at h1; omega
        have HD : Hid ((false || (decide (x = 0) || decide (x = poison))) = false) := hid (by rw [decide_eq_false h0, decide_eq_false h1]; rfl)
        clear h0 h1
        go_enter Tryz.func73, Tryz.ntmps73
        go_wp2
        go_ret
        exact ⟨retb HD.out.symm, rfl⟩
set_option maxHeartbeats 1000000 in
theorem EveryW_any (M : Mem) (wa la : Option Addr) (wc lc X n : Nat) (V : World) (hn : M.W.length = n) (hm : M.L.length = n) (h : MemL V wa wc la lc M) (hc : V.cell? ⟨X, 1, none⟩ = some (.slice la n lc)) :
    Calls Tryz.prog 72 #[.slice wa n wc, .func (.func 73) #[] #[.pointer (some ⟨X, 0, none⟩)]] V (fun e V' => e = .returned (.bool ((M.W.zip M.L).all wordOk)) ∧ V' = V) := by
  have hw := h.w
  have hl := h.l
  rw [hn] at hw
  rw [hm] at hl
  have hwn := hw.len.1
  have H := hid hw
  have HN := hid hn
  have HM := hid hm
  have HC := hid (fun (x k : Nat) (b : Bool) (hk : k < n) (hb : M.L[k]? = some b) => Check1_any x k n b la lc X V M.L hc hl hk hb)
  obtain ⟨ZZ, hZZ⟩ : ∃ ZZ, M.W.zip M.L = ZZ := ⟨_, rfl⟩
  have HZL : Hid (ZZ.length = n) := hid (by rw [← hZZ, List.length_zip, hn, hm]; omega)
  have HZ := hid hZZ
  rw [hZZ]
  clear h hw hl hn hm hc hZZ
  go_enter Tryz.func72, Tryz.ntmps72
  go_wp2
  go_loopg [9] n (fun g i wr => ∃ k : Nat, g + k = n ∧ i = .int .i64 (k : Nat) ∧ Hid ((ZZ.take k).all wordOk = true) ∧ wr = V)
  case atStart => exact ⟨0, rfl, rfl, hid (by simp), rfl⟩
  case round =>
    obtain ⟨k, hk, rfl, hs, hwr⟩ := hrel
    subst hwr
    have HK := hid hk
    clear hk
    by_cases hlt : k < n
    · obtain ⟨x, hxk⟩ : ∃ x, M.W[k]? = some x := ⟨_, List.getElem?_eq_getElem (by rw [HN.out]; exact hlt)⟩
      obtain ⟨b, hbk⟩ : ∃ x, M.L[k]? = some x := ⟨_, List.getElem?_eq_getElem (by rw [HM.out]; exact hlt)⟩
      obtain ⟨b', off, rfl, -, hc⟩ := H.out.at hlt (wcell_at hxk)
      have f1 := hc _ (Below.refl _ _)
      have hz : ZZ[k]? = some (x, b) := by rw [← HZ.out, List.getElem?_zip_eq_some]; exact ⟨hxk, hbk⟩
      have HTK : Hid ((ZZ.take (k + 1)).all wordOk = wordOk (x, b)) := hid (by rw [take_snoc hz, List.all_append, hs.out]; simp)
      have HMEM : Hid ((x, b) ∈ ZZ) := hid (List.mem_of_getElem? hz)
      have hC := HC.out x k b hlt hbk
      obtain ⟨B, hB⟩ : ∃ B, wordOk (x, b) = B := ⟨_, rfl⟩
      rw [hB] at hC
      have HCX := hid hC
      have HB := hid hB
      clear hc hxk hbk hC hB hz
      cases B with
      | true =>
        go_wp2_with fail
        refine HCX.out.mono ?_
        rintro e w2 ⟨rfl, rfl⟩
        go_wp2
        go_roundg (gk - 1)
        case measure => have := HK.out; omega
        case rel => exact ⟨k + 1, by have := HK.out; omega, by go_num, hid (HTK.out.trans HB.out), rfl⟩
      | false =>
        have HE : Hid (ZZ.all wordOk = false) := hid (by
          rw [Bool.eq_false_iff]
          intro h
          have := List.all_eq_true.1 h _ HMEM.out
          rw [HB.out] at this
          cases this)
        go_wp2_with fail
        refine HCX.out.mono ?_
        rintro e w2 ⟨rfl, rfl⟩
        go_wp2
        go_ret
        exact ⟨retb HE.out.symm, rfl⟩
    · have e := HK.out
      obtain rfl : k = n := by omega
      have HE : Hid (ZZ.all wordOk = true) := hid (by
        have := hs.out
        rwa [List.take_of_length_le (by rw [HZL.out]; exact Nat.le_refl _)] at this)
      clear hs e HK
      go_wp2
      go_ret
      exact ⟨retb HE.out.symm, rfl⟩
set_option maxRecDepth 100000 in
set_option maxHeartbeats 2000000 in
theorem Check_any (M : Mem) (wa la : Option Addr) (wc lc : Nat) (V : World) (h : MemL V wa wc la lc M) :
    Calls Tryz.prog 49 #[memV wa wc la lc M] V (Ret (.int .i64 (if okM M then 0 else 120)) V) := by
  obtain ⟨V1, hV1, hb1, hs1, hl1⟩ := laid V #[.slice wa M.W.length wc, .slice la M.L.length lc, .bool M.F] 25
  obtain ⟨X, hX⟩ : ∃ X, V.heap.size = X := ⟨_, rfl⟩
  rw [hX] at hl1
  have a0 := cell_laid (i := 0) hl1 rfl
  have a1 := cell_laid (i := 1) hl1 rfl
  have HM := hid (h.grow hb1)
  have HB1 := hid hb1
  have hwl := h.w.len
  have hll := h.l.len
  unfold memV
  obtain ⟨n, hn⟩ : ∃ n, M.W.length = n := ⟨_, rfl⟩
  obtain ⟨m, hm⟩ : ∃ m, M.L.length = m := ⟨_, rfl⟩
  obtain ⟨A, hA⟩ : ∃ A, (M.W.zip M.L).all wordOk = A := ⟨_, rfl⟩
  have HEV := hid (fun (e : m = n) => EveryW_any M wa la wc lc X n V1 hn (hm.trans e) HM.out (by rw [← e, ← hm]; exact a1))
  rw [hA] at HEV
  have HOK : Hid (okM M = (decide (1 ≤ n) && (decide (n ≤ 4096) && (decide (m = n) && A)))) := hid (by unfold okM; rw [hn, hm, hA])
  rw [hn] at hV1 a0 hwl
  rw [hm] at hV1 a1 hll
  rw [hn, hm]
  rw [HOK.out]
  obtain ⟨E, hE⟩ : ∃ E : Int, (if (decide (1 ≤ n) && (decide (n ≤ 4096) && (decide (m = n) && A))) = true then (0 : Int) else 120) = E := ⟨_, rfl⟩
  rw [hE]
  have HE := hid hE
  clear h hl1 hs1 hn hm hA hE
  go_enter Tryz.func49, Tryz.ntmps49
  by_cases c1 : 1 ≤ n
  · have t1 : decide ((1 : Int) ≤ ((n : Nat) : Int)) = true := decide_eq_true (by omega)
    by_cases c2 : n ≤ 4096
    · have t2 : decide (((n : Nat) : Int) ≤ 4096) = true := decide_eq_true (by omega)
      by_cases c3 : m = n
      · subst c3
        have HEV2 := hid (HEV.out rfl)
        cases A
        case' true =>
          have HEE : Hid (E = 0) := hid (by rw [← HE.out, decide_eq_true c1, decide_eq_true c2, decide_eq_true rfl]; rfl)
        case' false =>
          have HEE : Hid (E = 120) := hid (by rw [← HE.out, decide_eq_true c1, decide_eq_true c2, decide_eq_true rfl]; rfl)
        all_goals
          go_wp2_with fail
          refine HEV2.out.mono ?_
          rintro e w2 ⟨rfl, rfl⟩
          go_wp2
          go_ret
          exact ⟨reti HEE.out.symm, HB1.out⟩
      · have t3 : (((m : Nat) : Int) == ((n : Nat) : Int)) = false := by simp; omega
        have HEE : Hid (E = 120) := hid (by rw [← HE.out, decide_eq_true c1, decide_eq_true c2, decide_eq_false c3]; rfl)
        go_wp2
        go_ret
        exact ⟨reti HEE.out.symm, HB1.out⟩
    · have t2 : decide (((n : Nat) : Int) ≤ 4096) = false := decide_eq_false (by omega)
      have HEE : Hid (E = 120) := hid (by rw [← HE.out, decide_eq_true c1, decide_eq_false c2]; rfl)
      go_wp2
      go_ret
      exact ⟨reti HEE.out.symm, HB1.out⟩
  · have t1 : decide ((1 : Int) ≤ ((n : Nat) : Int)) = false := decide_eq_false (by omega)
    have HEE : Hid (E = 120) := hid (by rw [← HE.out, decide_eq_false c1]; rfl)
    go_wp2
    go_ret
    exact ⟨reti HEE.out.symm, HB1.out⟩
end Go.Proofs.YtahicokokfcieaaGreatDoor
namespace Go.Proofs.YtahicokokfcieaaGreatDoor
open Go.RowKit
open Go.Proofs
set_option linter.unusedVariables false
theorem elemWords : Elem Tryz.prog 22 26 1 8 := Elem.mk' (z := .int .u64 0) Tryz.underlying22 (by kernel_rfl) rfl (by decide) (by decide)
theorem elemBools : Elem Tryz.prog 23 4 1 1 := Elem.mk' (z := .bool false) Tryz.underlying23 (by kernel_rfl) rfl (by decide) (by decide)
theorem made_one (z : Value) (n : Nat) : madeCells #[z] n = (List.replicate n z).toArray := by
  apply Array.ext
  · simp [size_madeCells]
  · intro j h1 h2
    have := size_madeCells #[z] n
    have e : j % 1 = 0 := Nat.mod_one j
    simp [madeCells, e]
theorem make_words (w : World) (n : Nat) (hn : n ≤ 100000) : (Instr.makeSlice 22 (.int .i64 ((n : Nat) : Int)) (.int .i64 ((n : Nat) : Int))).run Tryz.prog w = .ok (.slice (some ⟨w.heap.size, 0, none⟩) n n) (w.alloc (.cells (List.replicate n (.int .u64 0)).toArray 26)) := by
  obtain ⟨i, z, hi, hz, h2, h3, h4⟩ := elemWords.info
  have hz0 : (Tryz.prog.info? 26).map (fun i => i.zero) = some (some (.int .u64 0)) := by kernel_rfl
  rw [hi] at hz0
  have e : i.zero = some (.int .u64 0) := Option.some.inj hz0
  have hr := run_make (P := Tryz.prog) w 22 26 i _ Tryz.underlying22 hi e .i64 .i64 (n : Int) (n : Int) (by omega) (by omega) (by rw [h3]; omega) (by omega)
  rw [hr, h2, Int.toNat_natCast, Nat.mul_one]
  show _ = Result.ok _ (w.alloc (.cells (List.replicate n (.int .u64 0)).toArray 26))
  rw [← made_one]
  rfl
theorem make_bools (w : World) (n : Nat) (hn : n ≤ 100000) : (Instr.makeSlice 23 (.int .i64 ((n : Nat) : Int)) (.int .i64 ((n : Nat) : Int))).run Tryz.prog w = .ok (.slice (some ⟨w.heap.size, 0, none⟩) n n) (w.alloc (.cells (List.replicate n (.bool false)).toArray 4)) := by
  obtain ⟨i, z, hi, hz, h2, h3, h4⟩ := elemBools.info
  have hz0 : (Tryz.prog.info? 4).map (fun i => i.zero) = some (some (.bool false)) := by kernel_rfl
  rw [hi] at hz0
  have e : i.zero = some (.bool false) := Option.some.inj hz0
  have hr := run_make (P := Tryz.prog) w 23 4 i _ Tryz.underlying23 hi e .i64 .i64 (n : Int) (n : Int) (by omega) (by omega) (by rw [h3]; omega) (by omega)
  rw [hr, h2, Int.toNat_natCast, Nat.mul_one]
  show _ = Result.ok _ (w.alloc (.cells (List.replicate n (.bool false)).toArray 4))
  rw [← made_one]
  rfl
/-- A memory's rows, of its own. -/
structure MemO (base : Nat) (wa : Option Addr) (wc : Nat) (la : Option Addr) (lc : Nat) (M : Mem) (V : World) : Prop where
  w : V.ownsRow base 26 1 (.slice wa M.W.length wc) M.W.length (wcells M.W)
  l : V.ownsRow base 4 1 (.slice la M.L.length lc) M.L.length (bcells M.L)
theorem MemO.grow {base : Nat} {wa la : Option Addr} {wc lc : Nat} {M : Mem} {V V' : World} (h : MemO base wa wc la lc M V) (hb : Below V.heap.size V V') : MemO base wa wc la lc M V' := ⟨own_grow h.w hb, own_grow h.l hb⟩
theorem MemO.memL {base : Nat} {wa la : Option Addr} {wc lc : Nat} {M : Mem} {V : World} (h : MemO base wa wc la lc M V) : MemL V wa wc la lc M := ⟨Leads.of_own1 h.w, Leads.of_own1 h.l⟩
theorem MemO.set {base Z i : Nat} {wa la : Option Addr} {wc lc : Nat} {M : Mem} {V : World} {cur : Array Value} {e : TypeId} (h : MemO base wa wc la lc M V) (hZ : V.heap[Z]? = some (.cells cur e (0, 0))) (h1 : 26 ≠ e) (h2 : 4 ≠ e) (v : Value) : MemO base wa wc la lc M (V.setCell ⟨Z, i, none⟩ v) := by
  refine ⟨own_keep h.w (fun k o hk hh => ?_), own_keep h.l (fun k o hk hh => ?_)⟩
  · obtain ⟨cur', hc⟩ := own_type h.w k hk
    exact other_laid hh (type_ne hc hZ h1) _
  · obtain ⟨cur', hc⟩ := own_type h.l k hk
    exact other_laid hh (type_ne hc hZ h2) _
/-- A call gives a memory of its own. -/
def GivesM (M : Mem) (w : World) (e : Ending) (W : World) : Prop := ∃ wa wc la lc, e = .returned (memV wa wc la lc M) ∧ MemO w.heap.size wa wc la lc M W ∧ Below w.heap.size w W
/-- A memory is put into a variable that holds none. -/
theorem put_mem {V : World} {Y : Nat} {z0 z1 z2 : Value} (h : V.heap[Y]? = some (.cells #[z0, z1, z2] 25 (0, 0))) (v0 v1 v2 : Value) :
    ∃ V', V' = ((V.setCell ⟨Y, 0, none⟩ v0).setCell ⟨Y, 1, none⟩ v1).setCell ⟨Y, 2, none⟩ v2 ∧ V'.heap[Y]? = some (.cells #[v0, v1, v2] 25 (0, 0)) ∧
      (∀ (k : Nat) (o : Obj), k ≠ Y → V.heap[k]? = some o → V'.heap[k]? = some o) ∧ (∀ (B : Nat) (w : World), B ≤ Y → Below B w V → Below B w V') ∧
      ∀ (base : Nat) (wa : Option Addr) (wc : Nat) (la : Option Addr) (lc : Nat) (M : Mem), MemO base wa wc la lc M V → MemO base wa wc la lc M V' := by
  have h0 := set_laid (i := 0) h v0
  have h1 := set_laid (i := 1) h0 v1
  refine ⟨_, rfl, set_laid (i := 2) h1 v2, fun k o hk ho => other_laid (other_laid (other_laid ho hk _) hk _) hk _, fun B w hB hb => ((hb.setCell hB _).setCell hB _).setCell hB _,
    fun base wa wc la lc M hm => ((hm.set h (by decide) (by decide) v0).set h0 (by decide) (by decide) v1).set h1 (by decide) (by decide) v2⟩
theorem cells3 {W : World} {Y : Nat} {v0 v1 v2 : Value} {T : TypeId} (h : W.heap[Y]? = some (.cells #[v0, v1, v2] T (0, 0))) : W.cell? ⟨Y, 0, none⟩ = some v0 ∧ W.cell? ⟨Y, 1, none⟩ = some v1 ∧ W.cell? ⟨Y, 2, none⟩ = some v2 := ⟨cell_laid h rfl, cell_laid h rfl, cell_laid h rfl⟩
theorem memown_result {W : World} {b : Nat} {v0 v1 v2 : Value} {tmps : Array Value} (h : W.heap[b]? = some (.cells #[v0, v1, v2] 25 (0, 0))) (hp : tmps[2]?.getD undef = .pointer (some ⟨b, 0, none⟩)) :
    (results Tryz.f88 tmps).run Tryz.prog W = .ok (.agg #[v0, v1, v2]) W := by
  have h0 := cell_laid (i := 0) (v := v0) h rfl
  have h1 := cell_laid (i := 1) (v := v1) h rfl
  have h2 := cell_laid (i := 2) (v := v2) h rfl
  simp [results, Tryz.results88, go_sem, hp, h0, h1, h2]
theorem splice_whole {α : Type} (L cs : List α) (h : L.length = cs.length) : splice L 0 cs = cs := by unfold splice; simp [h]
set_option maxRecDepth 100000 in
set_option maxHeartbeats 4000000 in
theorem memown_any (M : Mem) (wa la : Option Addr) (wc lc : Nat) (V : World) (h : MemL V wa wc la lc M) (hW : M.W.length ≤ 5000) (hL : M.L.length ≤ 5000) :
    Calls Tryz.prog 88 #[memV wa wc la lc M] V (GivesM M V) := by
  obtain ⟨V0, hV0, hb0, hs0, hl0⟩ := laid V #[.slice wa M.W.length wc, .slice la M.L.length lc, .bool M.F] 25
  obtain ⟨V1, hV1, hb1, hs1, hl1⟩ := laid V0 #[.slice none 0 0, .slice none 0 0, .bool false] 25
  obtain ⟨X, hX⟩ : ∃ X, V.heap.size = X := ⟨_, rfl⟩
  obtain ⟨Z, hZ⟩ : ∃ Z, V0.heap.size = Z := ⟨_, rfl⟩
  rw [hX] at hl0
  rw [hZ] at hl1
  have HXB := hid (keep_laid hl0 hb1)
  have HZB := hid hl1
  have HB1 := hid (step hb0 hb1)
  have HZX : Hid (V.heap.size ≤ Z) := hid (by rw [← hZ]; exact hb0.size)
  have HM := hid (h.grow HB1.out)
  have hwl := h.w.len
  have hll := h.l.len
  unfold GivesM memV
  obtain ⟨F, hF⟩ : ∃ F, M.F = F := ⟨_, rfl⟩
  obtain ⟨n, hn⟩ : ∃ n, M.W.length = n := ⟨_, rfl⟩
  obtain ⟨m, hm⟩ : ∃ m, M.L.length = m := ⟨_, rfl⟩
  rw [hn] at hV0 HXB hwl hW
  rw [hm] at hV0 HXB hll hL
  rw [hF] at hV0 HXB
  rw [hn, hm, hF]
  have HN := hid hn
  have HMM := hid hm
  have HF := hid hF
  have x0 : ∀ z : Ext V1, z.v.cell? ⟨X, 0, none⟩ = some (.slice wa n wc) := fun z => (cells3 (keep_laid HXB.out z.b)).1
  have x1 : ∀ z : Ext V1, z.v.cell? ⟨X, 1, none⟩ = some (.slice la m lc) := fun z => (cells3 (keep_laid HXB.out z.b)).2.1
  have x2 : ∀ z : Ext V1, z.v.cell? ⟨X, 2, none⟩ = some (.bool F) := fun z => (cells3 (keep_laid HXB.out z.b)).2.2
  clear h hs0 hs1 hb0 hb1 hl0 hl1 hn hm hF
  go_enter Tryz.func88, Tryz.ntmps88
  go_upto_region 1 with (fail)
  go_cut [3] (fun t3 V2 => ∃ Y gw gl : Nat, t3 = .pointer (some ⟨Y, 0, none⟩) ∧ V2.heap[Y]? = some (.cells #[.slice (some ⟨gw, 0, none⟩) n n, .slice (some ⟨gl, 0, none⟩) m m, .bool F] 25 (0, 0)) ∧ V2.heap[gw]? = some (.cells (List.replicate n (.int .u64 0)).toArray 26 (0, 0)) ∧ V2.heap[gl]? = some (.cells (List.replicate m (.bool false)).toArray 4 (0, 0)) ∧ V1.heap.size ≤ Y ∧ V1.heap.size ≤ gw ∧ V1.heap.size ≤ gl ∧ Below V1.heap.size V1 V2)
  case first =>
    refine wp_region_mix3 (fun W => ∃ z : Ext V1, W = z.v) 12 (.q 0 (.q 1 (.q 2 (.q 4 (.q 5 (.q 6 (.q 8 (.q 9 (.h3 3 (.h2 7 (.q 10 (.h 11 (.done))) 11 (.h 7 (.q 10 (.done)))) 7 (.h2 3 (.q 10 (.h 11 (.done))) 11 (.h 3 (.q 10 (.done)))) 11 (.h2 3 (.h 7 (.q 10 (.done))) 7 (.h 3 (.q 10 (.done))))))))))))) (by kernel_rfl) (by kernel_rfl) ⟨⟨_, (Below.refl _ _).drew⟩, rfl⟩ ?_
    repeat (refine wpMix3_q rfl rfl ?_; go_big_quiet_step (fail); refine wpQuiet_nil ?_)
    obtain ⟨wD, hwD⟩ : ∃ wD, V1.drew = wD := ⟨_, rfl⟩
    have HBD : Hid (Below V1.heap.size V1 wD) := hid (by rw [← hwD]; exact (Below.refl _ _).drew)
    rw [hwD]
    clear hwD x0 x1 x2
    refine wpMix3_h3 ?_ ?_ ?_
    · refine wpMix3_h rfl fun R' hR' hO => ?_
      obtain ⟨w1_, hw1, hb1, hs1, hl1⟩ := laid wD (List.replicate n (.int .u64 0)).toArray 26
      obtain ⟨gw, hg1⟩ : ∃ gw, wD.heap.size = gw := ⟨_, rfl⟩
      have HLW : Hid (V1.heap.size ≤ gw) := hid (by rw [← hg1]; exact HBD.out.size)
      have hmk1 := make_words wD n (by omega)
      rw [hw1, hg1] at hmk1
      rw [hg1] at hl1 hs1
      have HC1 := hid hl1
      have HBW1 := hid (step HBD.out hb1)
      clear hb1 hl1 hs1
      go_wp2
      refine hR' _ _ ⟨⟨_, HBW1.out⟩, rfl⟩ ?_
      clear hR' hO R' hg1 hw1 hmk1
      refine wpMix3_h2 ?_ ?_
      · refine wpMix3_h rfl fun R' hR' hO => ?_
        obtain ⟨w2_, hw2, hb2, hs2, hl2⟩ := laid w1_ (List.replicate m (.bool false)).toArray 4
        obtain ⟨gl, hg2⟩ : ∃ gl, w1_.heap.size = gl := ⟨_, rfl⟩
        have HLL : Hid (V1.heap.size ≤ gl) := hid (by rw [← hg2]; exact HBW1.out.size)
        have hmk2 := make_bools w1_ m (by omega)
        rw [hw2, hg2] at hmk2
        rw [hg2] at hl2 hs2
        have HC2 := hid hl2
        have HK2W := hid (keep_laid HC1.out hb2)
        have HBW2 := hid (step HBW1.out hb2)
        clear hb2 hl2 hs2
        go_wp2
        refine hR' _ _ ⟨⟨_, HBW2.out⟩, rfl⟩ ?_
        clear hR' hO R' hg2 hw2 hmk2
        refine wpMix3_q rfl rfl ?_
        go_big_quiet_step (fail)
        refine wpQuiet_nil ?_
        refine wpMix3_h rfl fun R' hR' hO => ?_
        obtain ⟨w3_, hw3, hb3, hs3, hl3⟩ := laid w2_ #[.slice none 0 0, .slice none 0 0, .bool false] 25
        obtain ⟨Y, hg3⟩ : ∃ Y, w2_.heap.size = Y := ⟨_, rfl⟩
        have HLY : Hid (V1.heap.size ≤ Y) := hid (by rw [← hg3]; exact HBW2.out.size)
        rw [hg3] at hl3 hs3
        have HC3 := hid hl3
        have HK3W := hid (keep_laid HK2W.out hb3)
        have HK3L := hid (keep_laid HC2.out hb3)
        have HBW3 := hid (step HBW2.out hb3)
        clear hb3 hl3 hs3
        go_wp2
        refine hR' _ _ ⟨⟨_, HBW3.out⟩, rfl⟩ ?_
        clear hR' hO R' hg3 hw3
        refine wpMix3_done ?_
        simp only [List.drop_succ_cons, List.drop_zero]
        have f0 := free_laid (i := 0) HC3.out
        have f1 := free_laid (i := 1) HC3.out
        have f2 := free_laid (i := 2) HC3.out
        have c0 := cell_laid (i := 0) HC3.out rfl
        have c1 := cell_laid (i := 1) HC3.out rfl
        have c2 := cell_laid (i := 2) HC3.out rfl
        obtain ⟨w7, hw7, hy7, hk7, hb7, -⟩ := put_mem HC3.out (.slice (some ⟨gw, 0, none⟩) n n) (.slice (some ⟨gl, 0, none⟩) m m) (.bool F)
        have HF7 := hid (show w7.heap[Y]? = _ ∧ w7.heap[gw]? = _ ∧ w7.heap[gl]? = _ ∧ Below V1.heap.size V1 w7 from ⟨hy7, hk7 gw _ (type_ne HK3W.out HC3.out (by decide)) HK3W.out, hk7 gl _ (type_ne HK3L.out HC3.out (by decide)) HK3L.out, hb7 _ _ HLY.out HBW3.out⟩)
        have HW7 := hid hw7
        clear hw7 hy7 hk7 hb7
        go_wp2
        go_meet
        rw [← HW7.out]
        exact ⟨Y, gw, gl, rfl, HF7.out.1, HF7.out.2.1, HF7.out.2.2.1, HLY.out, HLW.out, HLL.out, HF7.out.2.2.2⟩
      · refine wpMix3_h rfl fun R' hR' hO => ?_
        obtain ⟨w4_, hw4, hb4, hs4, hl4⟩ := laid w1_ #[.slice none 0 0, .slice none 0 0, .bool false] 25
        obtain ⟨Y, hg4⟩ : ∃ Y, w1_.heap.size = Y := ⟨_, rfl⟩
        have HLY : Hid (V1.heap.size ≤ Y) := hid (by rw [← hg4]; exact HBW1.out.size)
        rw [hg4] at hl4 hs4
        have HC4 := hid hl4
        have HK4W := hid (keep_laid HC1.out hb4)
        have HBW4 := hid (step HBW1.out hb4)
        clear hb4 hl4 hs4
        go_wp2
        refine hR' _ _ ⟨⟨_, HBW4.out⟩, rfl⟩ ?_
        clear hR' hO R' hg4 hw4
        refine wpMix3_h rfl fun R' hR' hO => ?_
        obtain ⟨w5_, hw5, hb5, hs5, hl5⟩ := laid w4_ (List.replicate m (.bool false)).toArray 4
        obtain ⟨gl, hg5⟩ : ∃ gl, w4_.heap.size = gl := ⟨_, rfl⟩
        have HLL : Hid (V1.heap.size ≤ gl) := hid (by rw [← hg5]; exact HBW4.out.size)
        have hmk5 := make_bools w4_ m (by omega)
        rw [hw5, hg5] at hmk5
        rw [hg5] at hl5 hs5
        have HC5 := hid hl5
        have HK5W := hid (keep_laid HK4W.out hb5)
        have HK5Y := hid (keep_laid HC4.out hb5)
        have HBW5 := hid (step HBW4.out hb5)
        clear hb5 hl5 hs5
        go_wp2
        refine hR' _ _ ⟨⟨_, HBW5.out⟩, rfl⟩ ?_
        clear hR' hO R' hg5 hw5 hmk5
        refine wpMix3_q rfl rfl ?_
        go_big_quiet_step (fail)
        refine wpQuiet_nil ?_
        refine wpMix3_done ?_
        simp only [List.drop_succ_cons, List.drop_zero]
        have f0 := free_laid (i := 0) HK5Y.out
        have f1 := free_laid (i := 1) HK5Y.out
        have f2 := free_laid (i := 2) HK5Y.out
        have c0 := cell_laid (i := 0) HK5Y.out rfl
        have c1 := cell_laid (i := 1) HK5Y.out rfl
        have c2 := cell_laid (i := 2) HK5Y.out rfl
        obtain ⟨w7, hw7, hy7, hk7, hb7, -⟩ := put_mem HK5Y.out (.slice (some ⟨gw, 0, none⟩) n n) (.slice (some ⟨gl, 0, none⟩) m m) (.bool F)
        have HF7 := hid (show w7.heap[Y]? = _ ∧ w7.heap[gw]? = _ ∧ w7.heap[gl]? = _ ∧ Below V1.heap.size V1 w7 from ⟨hy7, hk7 gw _ (type_ne HK5W.out HK5Y.out (by decide)) HK5W.out, hk7 gl _ (type_ne HC5.out HK5Y.out (by decide)) HC5.out, hb7 _ _ HLY.out HBW5.out⟩)
        have HW7 := hid hw7
        clear hw7 hy7 hk7 hb7
        go_wp2
        go_meet
        rw [← HW7.out]
        exact ⟨Y, gw, gl, rfl, HF7.out.1, HF7.out.2.1, HF7.out.2.2.1, HLY.out, HLW.out, HLL.out, HF7.out.2.2.2⟩
    · refine wpMix3_h rfl fun R' hR' hO => ?_
      obtain ⟨w6_, hw6, hb6, hs6, hl6⟩ := laid wD (List.replicate m (.bool false)).toArray 4
      obtain ⟨gl, hg6⟩ : ∃ gl, wD.heap.size = gl := ⟨_, rfl⟩
      have HLL : Hid (V1.heap.size ≤ gl) := hid (by rw [← hg6]; exact HBD.out.size)
      have hmk6 := make_bools wD m (by omega)
      rw [hw6, hg6] at hmk6
      rw [hg6] at hl6 hs6
      have HC6 := hid hl6
      have HBW6 := hid (step HBD.out hb6)
      clear hb6 hl6 hs6
      go_wp2
      refine hR' _ _ ⟨⟨_, HBW6.out⟩, rfl⟩ ?_
      clear hR' hO R' hg6 hw6 hmk6
      refine wpMix3_h2 ?_ ?_
      · refine wpMix3_h rfl fun R' hR' hO => ?_
        obtain ⟨w7_, hw7, hb7, hs7, hl7⟩ := laid w6_ (List.replicate n (.int .u64 0)).toArray 26
        obtain ⟨gw, hg7⟩ : ∃ gw, w6_.heap.size = gw := ⟨_, rfl⟩
        have HLW : Hid (V1.heap.size ≤ gw) := hid (by rw [← hg7]; exact HBW6.out.size)
        have hmk7 := make_words w6_ n (by omega)
        rw [hw7, hg7] at hmk7
        rw [hg7] at hl7 hs7
        have HC7 := hid hl7
        have HK7L := hid (keep_laid HC6.out hb7)
        have HBW7 := hid (step HBW6.out hb7)
        clear hb7 hl7 hs7
        go_wp2
        refine hR' _ _ ⟨⟨_, HBW7.out⟩, rfl⟩ ?_
        clear hR' hO R' hg7 hw7 hmk7
        refine wpMix3_q rfl rfl ?_
        go_big_quiet_step (fail)
        refine wpQuiet_nil ?_
        refine wpMix3_h rfl fun R' hR' hO => ?_
        obtain ⟨w8_, hw8, hb8, hs8, hl8⟩ := laid w7_ #[.slice none 0 0, .slice none 0 0, .bool false] 25
        obtain ⟨Y, hg8⟩ : ∃ Y, w7_.heap.size = Y := ⟨_, rfl⟩
        have HLY : Hid (V1.heap.size ≤ Y) := hid (by rw [← hg8]; exact HBW7.out.size)
        rw [hg8] at hl8 hs8
        have HC8 := hid hl8
        have HK8W := hid (keep_laid HC7.out hb8)
        have HK8L := hid (keep_laid HK7L.out hb8)
        have HBW8 := hid (step HBW7.out hb8)
        clear hb8 hl8 hs8
        go_wp2
        refine hR' _ _ ⟨⟨_, HBW8.out⟩, rfl⟩ ?_
        clear hR' hO R' hg8 hw8
        refine wpMix3_done ?_
        simp only [List.drop_succ_cons, List.drop_zero]
        have f0 := free_laid (i := 0) HC8.out
        have f1 := free_laid (i := 1) HC8.out
        have f2 := free_laid (i := 2) HC8.out
        have c0 := cell_laid (i := 0) HC8.out rfl
        have c1 := cell_laid (i := 1) HC8.out rfl
        have c2 := cell_laid (i := 2) HC8.out rfl
        obtain ⟨w7, hw7, hy7, hk7, hb7, -⟩ := put_mem HC8.out (.slice (some ⟨gw, 0, none⟩) n n) (.slice (some ⟨gl, 0, none⟩) m m) (.bool F)
        have HF7 := hid (show w7.heap[Y]? = _ ∧ w7.heap[gw]? = _ ∧ w7.heap[gl]? = _ ∧ Below V1.heap.size V1 w7 from ⟨hy7, hk7 gw _ (type_ne HK8W.out HC8.out (by decide)) HK8W.out, hk7 gl _ (type_ne HK8L.out HC8.out (by decide)) HK8L.out, hb7 _ _ HLY.out HBW8.out⟩)
        have HW7 := hid hw7
        clear hw7 hy7 hk7 hb7
        go_wp2
        go_meet
        rw [← HW7.out]
        exact ⟨Y, gw, gl, rfl, HF7.out.1, HF7.out.2.1, HF7.out.2.2.1, HLY.out, HLW.out, HLL.out, HF7.out.2.2.2⟩
      · refine wpMix3_h rfl fun R' hR' hO => ?_
        obtain ⟨w9_, hw9, hb9, hs9, hl9⟩ := laid w6_ #[.slice none 0 0, .slice none 0 0, .bool false] 25
        obtain ⟨Y, hg9⟩ : ∃ Y, w6_.heap.size = Y := ⟨_, rfl⟩
        have HLY : Hid (V1.heap.size ≤ Y) := hid (by rw [← hg9]; exact HBW6.out.size)
        rw [hg9] at hl9 hs9
        have HC9 := hid hl9
        have HK9L := hid (keep_laid HC6.out hb9)
        have HBW9 := hid (step HBW6.out hb9)
        clear hb9 hl9 hs9
        go_wp2
        refine hR' _ _ ⟨⟨_, HBW9.out⟩, rfl⟩ ?_
        clear hR' hO R' hg9 hw9
        refine wpMix3_h rfl fun R' hR' hO => ?_
        obtain ⟨w10_, hw10, hb10, hs10, hl10⟩ := laid w9_ (List.replicate n (.int .u64 0)).toArray 26
        obtain ⟨gw, hg10⟩ : ∃ gw, w9_.heap.size = gw := ⟨_, rfl⟩
        have HLW : Hid (V1.heap.size ≤ gw) := hid (by rw [← hg10]; exact HBW9.out.size)
        have hmk10 := make_words w9_ n (by omega)
        rw [hw10, hg10] at hmk10
        rw [hg10] at hl10 hs10
        have HC10 := hid hl10
        have HK10L := hid (keep_laid HK9L.out hb10)
        have HK10Y := hid (keep_laid HC9.out hb10)
        have HBW10 := hid (step HBW9.out hb10)
        clear hb10 hl10 hs10
        go_wp2
        refine hR' _ _ ⟨⟨_, HBW10.out⟩, rfl⟩ ?_
        clear hR' hO R' hg10 hw10 hmk10
        refine wpMix3_q rfl rfl ?_
        go_big_quiet_step (fail)
        refine wpQuiet_nil ?_
        refine wpMix3_done ?_
        simp only [List.drop_succ_cons, List.drop_zero]
        have f0 := free_laid (i := 0) HK10Y.out
        have f1 := free_laid (i := 1) HK10Y.out
        have f2 := free_laid (i := 2) HK10Y.out
        have c0 := cell_laid (i := 0) HK10Y.out rfl
        have c1 := cell_laid (i := 1) HK10Y.out rfl
        have c2 := cell_laid (i := 2) HK10Y.out rfl
        obtain ⟨w7, hw7, hy7, hk7, hb7, -⟩ := put_mem HK10Y.out (.slice (some ⟨gw, 0, none⟩) n n) (.slice (some ⟨gl, 0, none⟩) m m) (.bool F)
        have HF7 := hid (show w7.heap[Y]? = _ ∧ w7.heap[gw]? = _ ∧ w7.heap[gl]? = _ ∧ Below V1.heap.size V1 w7 from ⟨hy7, hk7 gw _ (type_ne HC10.out HK10Y.out (by decide)) HC10.out, hk7 gl _ (type_ne HK10L.out HK10Y.out (by decide)) HK10L.out, hb7 _ _ HLY.out HBW10.out⟩)
        have HW7 := hid hw7
        clear hw7 hy7 hk7 hb7
        go_wp2
        go_meet
        rw [← HW7.out]
        exact ⟨Y, gw, gl, rfl, HF7.out.1, HF7.out.2.1, HF7.out.2.2.1, HLY.out, HLW.out, HLL.out, HF7.out.2.2.2⟩
    · refine wpMix3_h rfl fun R' hR' hO => ?_
      obtain ⟨w11_, hw11, hb11, hs11, hl11⟩ := laid wD #[.slice none 0 0, .slice none 0 0, .bool false] 25
      obtain ⟨Y, hg11⟩ : ∃ Y, wD.heap.size = Y := ⟨_, rfl⟩
      have HLY : Hid (V1.heap.size ≤ Y) := hid (by rw [← hg11]; exact HBD.out.size)
      rw [hg11] at hl11 hs11
      have HC11 := hid hl11
      have HBW11 := hid (step HBD.out hb11)
      clear hb11 hl11 hs11
      go_wp2
      refine hR' _ _ ⟨⟨_, HBW11.out⟩, rfl⟩ ?_
      clear hR' hO R' hg11 hw11
      refine wpMix3_h2 ?_ ?_
      · refine wpMix3_h rfl fun R' hR' hO => ?_
        obtain ⟨w12_, hw12, hb12, hs12, hl12⟩ := laid w11_ (List.replicate n (.int .u64 0)).toArray 26
        obtain ⟨gw, hg12⟩ : ∃ gw, w11_.heap.size = gw := ⟨_, rfl⟩
        have HLW : Hid (V1.heap.size ≤ gw) := hid (by rw [← hg12]; exact HBW11.out.size)
        have hmk12 := make_words w11_ n (by omega)
        rw [hw12, hg12] at hmk12
        rw [hg12] at hl12 hs12
        have HC12 := hid hl12
        have HK12Y := hid (keep_laid HC11.out hb12)
        have HBW12 := hid (step HBW11.out hb12)
        clear hb12 hl12 hs12
        go_wp2
        refine hR' _ _ ⟨⟨_, HBW12.out⟩, rfl⟩ ?_
        clear hR' hO R' hg12 hw12 hmk12
        refine wpMix3_h rfl fun R' hR' hO => ?_
        obtain ⟨w13_, hw13, hb13, hs13, hl13⟩ := laid w12_ (List.replicate m (.bool false)).toArray 4
        obtain ⟨gl, hg13⟩ : ∃ gl, w12_.heap.size = gl := ⟨_, rfl⟩
        have HLL : Hid (V1.heap.size ≤ gl) := hid (by rw [← hg13]; exact HBW12.out.size)
        have hmk13 := make_bools w12_ m (by omega)
        rw [hw13, hg13] at hmk13
        rw [hg13] at hl13 hs13
        have HC13 := hid hl13
        have HK13W := hid (keep_laid HC12.out hb13)
        have HK13Y := hid (keep_laid HK12Y.out hb13)
        have HBW13 := hid (step HBW12.out hb13)
        clear hb13 hl13 hs13
        go_wp2
        refine hR' _ _ ⟨⟨_, HBW13.out⟩, rfl⟩ ?_
        clear hR' hO R' hg13 hw13 hmk13
        refine wpMix3_q rfl rfl ?_
        go_big_quiet_step (fail)
        refine wpQuiet_nil ?_
        refine wpMix3_done ?_
        simp only [List.drop_succ_cons, List.drop_zero]
        have f0 := free_laid (i := 0) HK13Y.out
        have f1 := free_laid (i := 1) HK13Y.out
        have f2 := free_laid (i := 2) HK13Y.out
        have c0 := cell_laid (i := 0) HK13Y.out rfl
        have c1 := cell_laid (i := 1) HK13Y.out rfl
        have c2 := cell_laid (i := 2) HK13Y.out rfl
        obtain ⟨w7, hw7, hy7, hk7, hb7, -⟩ := put_mem HK13Y.out (.slice (some ⟨gw, 0, none⟩) n n) (.slice (some ⟨gl, 0, none⟩) m m) (.bool F)
        have HF7 := hid (show w7.heap[Y]? = _ ∧ w7.heap[gw]? = _ ∧ w7.heap[gl]? = _ ∧ Below V1.heap.size V1 w7 from ⟨hy7, hk7 gw _ (type_ne HK13W.out HK13Y.out (by decide)) HK13W.out, hk7 gl _ (type_ne HC13.out HK13Y.out (by decide)) HC13.out, hb7 _ _ HLY.out HBW13.out⟩)
        have HW7 := hid hw7
        clear hw7 hy7 hk7 hb7
        go_wp2
        go_meet
        rw [← HW7.out]
        exact ⟨Y, gw, gl, rfl, HF7.out.1, HF7.out.2.1, HF7.out.2.2.1, HLY.out, HLW.out, HLL.out, HF7.out.2.2.2⟩
      · refine wpMix3_h rfl fun R' hR' hO => ?_
        obtain ⟨w14_, hw14, hb14, hs14, hl14⟩ := laid w11_ (List.replicate m (.bool false)).toArray 4
        obtain ⟨gl, hg14⟩ : ∃ gl, w11_.heap.size = gl := ⟨_, rfl⟩
        have HLL : Hid (V1.heap.size ≤ gl) := hid (by rw [← hg14]; exact HBW11.out.size)
        have hmk14 := make_bools w11_ m (by omega)
        rw [hw14, hg14] at hmk14
        rw [hg14] at hl14 hs14
        have HC14 := hid hl14
        have HK14Y := hid (keep_laid HC11.out hb14)
        have HBW14 := hid (step HBW11.out hb14)
        clear hb14 hl14 hs14
        go_wp2
        refine hR' _ _ ⟨⟨_, HBW14.out⟩, rfl⟩ ?_
        clear hR' hO R' hg14 hw14 hmk14
        refine wpMix3_h rfl fun R' hR' hO => ?_
        obtain ⟨w15_, hw15, hb15, hs15, hl15⟩ := laid w14_ (List.replicate n (.int .u64 0)).toArray 26
        obtain ⟨gw, hg15⟩ : ∃ gw, w14_.heap.size = gw := ⟨_, rfl⟩
        have HLW : Hid (V1.heap.size ≤ gw) := hid (by rw [← hg15]; exact HBW14.out.size)
        have hmk15 := make_words w14_ n (by omega)
        rw [hw15, hg15] at hmk15
        rw [hg15] at hl15 hs15
        have HC15 := hid hl15
        have HK15L := hid (keep_laid HC14.out hb15)
        have HK15Y := hid (keep_laid HK14Y.out hb15)
        have HBW15 := hid (step HBW14.out hb15)
        clear hb15 hl15 hs15
        go_wp2
        refine hR' _ _ ⟨⟨_, HBW15.out⟩, rfl⟩ ?_
        clear hR' hO R' hg15 hw15 hmk15
        refine wpMix3_q rfl rfl ?_
        go_big_quiet_step (fail)
        refine wpQuiet_nil ?_
        refine wpMix3_done ?_
        simp only [List.drop_succ_cons, List.drop_zero]
        have f0 := free_laid (i := 0) HK15Y.out
        have f1 := free_laid (i := 1) HK15Y.out
        have f2 := free_laid (i := 2) HK15Y.out
        have c0 := cell_laid (i := 0) HK15Y.out rfl
        have c1 := cell_laid (i := 1) HK15Y.out rfl
        have c2 := cell_laid (i := 2) HK15Y.out rfl
        obtain ⟨w7, hw7, hy7, hk7, hb7, -⟩ := put_mem HK15Y.out (.slice (some ⟨gw, 0, none⟩) n n) (.slice (some ⟨gl, 0, none⟩) m m) (.bool F)
        have HF7 := hid (show w7.heap[Y]? = _ ∧ w7.heap[gw]? = _ ∧ w7.heap[gl]? = _ ∧ Below V1.heap.size V1 w7 from ⟨hy7, hk7 gw _ (type_ne HC15.out HK15Y.out (by decide)) HC15.out, hk7 gl _ (type_ne HK15L.out HK15Y.out (by decide)) HK15L.out, hb7 _ _ HLY.out HBW15.out⟩)
        have HW7 := hid hw7
        clear hw7 hy7 hk7 hb7
        go_wp2
        go_meet
        rw [← HW7.out]
        exact ⟨Y, gw, gl, rfl, HF7.out.1, HF7.out.2.1, HF7.out.2.2.1, HLY.out, HLW.out, HLL.out, HF7.out.2.2.2⟩
  case rest =>
    obtain ⟨Y, gw, gl, rfl, hy, hw, hg, hlY, hlW, hlL, hb⟩ := hcut
    obtain ⟨V2, hV2⟩ : ∃ V2, V2 = wc := ⟨_, rfl⟩
    subst hV2
    have HY := hid hy
    have HW := hid hw
    have HG := hid hg
    have HB2 := hid hb
    have HXB2 := hid (keep_laid HXB.out hb)
    have HM2 := hid (HM.out.grow hb)
    have HWY : Hid (gw ≠ Y) := hid (type_ne hw hy (by decide))
    have HGY : Hid (gl ≠ Y) := hid (type_ne hg hy (by decide))
    have HWG : Hid (gw ≠ gl) := hid (type_ne hw hg (by decide))
    have hXY : X ≠ Y := by have := lt_laid HXB.out; omega
    have hXW : X ≠ gw := by have := lt_laid HXB.out; omega
    have hXG : X ≠ gl := by have := lt_laid HXB.out; omega
    obtain ⟨y0, y1, y2⟩ := cells3 hy
    obtain ⟨c0, c1, c2⟩ := cells3 HXB2.out
    clear hy hw hg hb x0 x1 x2 hXY hXW hXG
    have HLW2 := HM2.out.w
    rw [HN.out] at HLW2
    have HLWH := hid HLW2
    clear HLW2
    go_wp2_with ((with_reducible show wpList _ _ _ _ _ _); refine wp_copyK rfl (.tmp 16) (.tmp 18) 22 22 rfl 26 Tryz.underlying22 (by kernel_rfl) _ _ n n n wc rfl rfl gw 0 (List.replicate n (.int .u64 0)) 26 HW.out (wcells M.W) ?c1 ?c2 ?c3 ?c4 ?c5)
    case c1 => rw [wcells_len, HN.out]; exact (Nat.min_self n).symm
    case c2 =>
      intro hp
      obtain ⟨-, -, ⟨h0, -⟩ | ⟨b, off, rfl, -, hc⟩⟩ := HLWH.out
      · rw [wcells_len, HN.out] at hp; omega
      · exact ⟨_, rfl, fun j v hj => cell_add (hc j v hj)⟩
    case c3 => rw [wcells_len, HN.out]; simp
    case c4 => exact wcells_one _
    case c5 =>
    intro V3 h3
    obtain ⟨hg3, hk3, hb3⟩ := h3.out
    rw [splice_whole _ _ (by rw [wcells_len, HN.out]; simp)] at hg3
    have HW3 := hid hg3
    have HY3 := hid ((hk3 Y (Ne.symm HWY.out)).trans HY.out)
    have HG3 := hid ((hk3 gl (Ne.symm HWG.out)).trans HG.out)
    have HB3 := hid (hb3 V1.heap.size V1 hlW HB2.out)
    obtain ⟨y0, y1, y2⟩ := cells3 HY3.out
    obtain ⟨c0, c1, c2⟩ := cells3 (keep_laid HXB.out HB3.out)
    have HLL3 := (HM.out.grow HB3.out).l
    rw [HMM.out] at HLL3
    have HLLH := hid HLL3
    clear HLL3 hg3 hk3 hb3
    go_wp2_with ((with_reducible show wpList _ _ _ _ _ _); refine wp_copyK rfl (.tmp 21) (.tmp 23) 23 23 rfl 4 Tryz.underlying23 (by kernel_rfl) _ _ m m m lc rfl rfl gl 0 (List.replicate m (.bool false)) 4 HG3.out (bcells M.L) ?d1 ?d2 ?d3 ?d4 ?d5)
    case d1 => rw [bcells_len, HMM.out]; exact (Nat.min_self m).symm
    case d2 =>
      intro hp
      obtain ⟨-, -, ⟨h0, -⟩ | ⟨b, off, rfl, -, hc⟩⟩ := HLLH.out
      · rw [bcells_len, HMM.out] at hp; omega
      · exact ⟨_, rfl, fun j v hj => cell_add (hc j v hj)⟩
    case d3 => rw [bcells_len, HMM.out]; simp
    case d4 => exact bcells_one _
    case d5 =>
    intro V4 h4
    obtain ⟨hg4, hk4, hb4⟩ := h4.out
    rw [splice_whole _ _ (by rw [bcells_len, HMM.out]; simp)] at hg4
    have HG4 := hid hg4
    have HY4 := hid ((hk4 Y (Ne.symm HGY.out)).trans HY3.out)
    have HW4 := hid ((hk4 gw HWG.out).trans HW3.out)
    have HB4 := hid (hb4 V1.heap.size V1 hlL HB3.out)
    have HZ4 := hid (keep_laid HZB.out HB4.out)
    obtain ⟨y0, y1, y2⟩ := cells3 HY4.out
    have f0 := free_laid (i := 0) HZ4.out
    have f1 := free_laid (i := 1) HZ4.out
    have f2 := free_laid (i := 2) HZ4.out
    obtain ⟨z0, z1, z2⟩ := cells3 HZ4.out
    have hMO : MemO V.heap.size (some ⟨gw, 0, none⟩) n (some ⟨gl, 0, none⟩) m M V4 := by
      have hVV := HB1.out.size
      refine ⟨?_, ?_⟩
      · rw [HN.out]
        refine ⟨by rw [wcells_len, HN.out]; omega, .inr ⟨gw, n, _, rfl, by omega, HW4.out, Nat.le_refl _, by unfold maxLen; omega, by simp [wcells_len, HN.out], ?_⟩⟩
        rw [List.take_of_length_le (by simp [wcells_len, HN.out])]
      · rw [HMM.out]
        refine ⟨by rw [bcells_len, HMM.out]; omega, .inr ⟨gl, m, _, rfl, by omega, HG4.out, Nat.le_refl _, by unfold maxLen; omega, by simp [bcells_len, HMM.out], ?_⟩⟩
        rw [List.take_of_length_le (by simp [bcells_len, HMM.out])]
    obtain ⟨V5, hV5, hz5, hk5, hb5, hm5⟩ := put_mem HZ4.out (.slice (some ⟨gw, 0, none⟩) n n) (.slice (some ⟨gl, 0, none⟩) m m) (.bool F)
    have HM5 := hid (hm5 _ _ _ _ _ _ hMO)
    have HB5 := hid (hb5 _ _ HZX.out ((HB1.out.trans (HB4.out.mono HB1.out.size))))
    have HZ5 := hid hz5
    have HV5 := hid hV5
    clear hg4 hk4 hb4 hMO hV5 hz5 hk5 hb5 hm5
    go_wp2
    rw [← HV5.out]
    refine bodyPost_ret (memown_result HZ5.out rfl) rfl ?_
    exact ⟨_, _, _, _, rfl, HM5.out, HB5.out⟩
end Go.Proofs.YtahicokokfcieaaGreatDoor
namespace Go.Proofs.YtahicokokfcieaaGreatDoor
open Go.RowKit
open Go.Proofs
set_option linter.unusedVariables false
def liveAt (M : Mem) (at_ : Int) : Bool := decide (0 ≤ at_) && (M.L[at_.toNat]?).getD false
/-- A load, or a store: the memory, what the word held, whether it was done. -/
def stepM (M : Mem) (st : Bool) (at_ : Int) (new : Nat) : Mem × Nat × Bool :=
  if liveAt M at_ = true then (if st = true then ⟨M.W.set at_.toNat new, M.L, M.F⟩ else M, M.W.getD at_.toNat 0, true) else (⟨M.W, M.L, true⟩, 0, false)
def GivesG (M : Mem) (v : Nat) (d : Bool) (w : World) (e : Ending) (W : World) : Prop := ∃ wa wc la lc, e = .returned (.tuple #[memV wa wc la lc M, .agg #[.int .u64 ((v : Nat) : Int), .bool d], .int .i64 0]) ∧ MemO w.heap.size wa wc la lc M W ∧ Below w.heap.size w W
theorem step_result {W : World} {b c : Nat} {v0 v1 v2 u0 u1 s : Value} {tmps : Array Value} (h : W.heap[b]? = some (.cells #[v0, v1, v2] 25 (0, 0))) (h' : W.heap[c]? = some (.cells #[u0, u1] 111 (0, 0))) (hp : tmps[4]?.getD undef = .pointer (some ⟨b, 0, none⟩)) (hq : tmps[5]?.getD undef = .pointer (some ⟨c, 0, none⟩)) (hs : tmps[6]?.getD undef = s) :
    (results Tryz.f77 tmps).run Tryz.prog W = .ok (.tuple #[.agg #[v0, v1, v2], .agg #[u0, u1], s]) W := by
  have h0 := cell_laid (i := 0) (v := v0) h rfl
  have h1 := cell_laid (i := 1) (v := v1) h rfl
  have h2 := cell_laid (i := 2) (v := v2) h rfl
  have g0 := cell_laid (i := 0) (v := u0) h' rfl
  have g1 := cell_laid (i := 1) (v := u1) h' rfl
  simp [results, Tryz.results77, go_sem, hp, hq, hs, h0, h1, h2, g0, g1]
theorem acc_load (a b c d p : Value) (V : World) : Calls Tryz.prog 117 #[.agg #[a, b, c, d], p] V (Ret (.bool true) V) := by
  obtain ⟨V1, hV1, hb1, hs1, hl1⟩ := laid V #[a, b, c, d] 182
  go_enter Tryz.func117, Tryz.ntmps117
  go_wp2
  go_ret
  exact ⟨rfl, hb1⟩
theorem acc_store (a b c : Value) (g k x y : Nat) (V : World) (h : V.cell? ⟨g, k, none⟩ = some (.int .u64 ((y : Nat) : Int))) (hf : V.frozen? ⟨g, k, none⟩ = false) (hg : g < V.heap.size) :
    Calls Tryz.prog 118 #[.agg #[a, b, c, .int .u64 ((x : Nat) : Int)], .pointer (some ⟨g, k, none⟩)] V (fun e W => e = .returned (.bool true) ∧ ∃ V', Below V.heap.size V V' ∧ W = V'.setCell ⟨g, k, none⟩ (.int .u64 ((x : Nat) : Int))) := by
  obtain ⟨V1, hV1, hb1, hs1, hl1⟩ := laid V #[a, b, c, .int .u64 ((x : Nat) : Int)] 182
  obtain ⟨X, hX⟩ : ∃ X, V.heap.size = X := ⟨_, rfl⟩
  rw [hX] at hl1
  have c3 := cell_laid (i := 3) hl1 rfl
  have e1 : V1.cell? ⟨g, k, none⟩ = some (.int .u64 ((y : Nat) : Int)) := (hb1.cell (p := ⟨g, k, none⟩) hg).trans h
  have e2 : V1.frozen? ⟨g, k, none⟩ = false := by
    have := hb1.block g hg
    unfold World.frozen? at hf ⊢
    rw [this]
    exact hf
  have HB1 := hid hb1
  clear h hf hl1 hs1 hb1
  go_enter Tryz.func118, Tryz.ntmps118
  go_wp2
  go_ret
  exact ⟨rfl, V1, HB1.out, rfl⟩
theorem does_result {W : World} {b : Nat} {v0 v1 v2 v3 : Value} {tmps : Array Value} (h : W.heap[b]? = some (.cells #[v0, v1, v2, v3] 179 (0, 0))) (hp : tmps[0]?.getD undef = .pointer (some ⟨b, 0, none⟩)) :
    (results Tryz.f95 tmps).run Tryz.prog W = .ok (.agg #[v0, v1, v2, v3]) W := by
  have h0 := cell_laid (i := 0) (v := v0) h rfl
  have h1 := cell_laid (i := 1) (v := v1) h rfl
  have h2 := cell_laid (i := 2) (v := v2) h rfl
  have h3 := cell_laid (i := 3) (v := v3) h rfl
  simp [results, Tryz.results95, go_sem, hp, h0, h1, h2, h3]
end Go.Proofs.YtahicokokfcieaaGreatDoor
namespace Go.Proofs.YtahicokokfcieaaGreatDoor
open Go.RowKit
open Go.Proofs
set_option linter.unusedVariables false
theorem does_any (V : World) : Calls Tryz.prog 95 #[] V (fun e W => ∃ z, e = .returned (.agg #[z, .func (.func 117) #[] #[], .func (.func 118) #[] #[], .func (.func 119) #[] #[]]) ∧ Below V.heap.size V W) := by
  obtain ⟨V1, hV1, hb1, hs1, hl1⟩ := laid V #[.nilFunc, .nilFunc, .nilFunc, .nilFunc] 179
  obtain ⟨Y, hY⟩ : ∃ Y, V.heap.size = Y := ⟨_, rfl⟩
  have hYY : V.heap.size ≤ Y := by omega
  rw [hY] at hl1
  obtain ⟨V2, hV2, hl2, -, hb2⟩ := put4 hl1 .nilFunc (.func (.func 117) #[] #[]) (.func (.func 118) #[] #[]) (.func (.func 119) #[] #[])
  have HL2 := hid hl2
  have HB2 := hid (hb2 _ _ hYY hb1)
  have f0 := free_laid (i := 0) hl1
  have f1 := free_laid (i := 1) hl1
  have f2 := free_laid (i := 2) hl1
  have f3 := free_laid (i := 3) hl1
  have c0 := cell_laid (i := 0) hl1 rfl
  have c1 := cell_laid (i := 1) hl1 rfl
  have c2 := cell_laid (i := 2) hl1 rfl
  have c3 := cell_laid (i := 3) hl1 rfl
  have HV2 := hid hV2
  clear hl1 hs1 hl2 hb2 hV2 hb1 hYY
  go_enter Tryz.func95, Tryz.ntmps95
  go_wp2
  rw [← HV2.out]
  refine bodyPost_ret (does_result HL2.out rfl) rfl ?_
  exact ⟨_, rfl, HB2.out⟩
end Go.Proofs.YtahicokokfcieaaGreatDoor
