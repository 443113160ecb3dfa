/- Lists: ListEdits, the walk (printed by gen_lsedits.py). -/
import Derived.Test.YtdkkjcflcegeoaaLsWakes
import Derived.Test.YtdkkjcflcegeoaaLsRef8
import Derived.Test.YtdkkjcflcegeoaaMemLaw15
import Derived.Test.YtdkkjcflcegeoaaMemRef
namespace Go.Proofs.Ytdkkjcflcegeoaa
open Go.RowKit
open Go.Proofs
set_option linter.unusedVariables false
attribute [local go_sem] Oper.semAt_some
theorem take64_wok {M : Mem} (h : ∀ x ∈ M.W, x < 18446744073709551616) : ∀ x ∈ (take64 M).W, x < 18446744073709551616 := fun x hx => h x (List.mem_of_mem_take hx)
theorem take64_len (M : Mem) : (take64 M).W.length ≤ 64 ∧ (take64 M).L.length ≤ 64 := by unfold take64; simp; omega
theorem take64_id {M : Mem} (h1 : M.W.length ≤ 64) (h2 : M.L.length ≤ 64) : take64 M = M := by
  unfold take64
  rw [List.take_of_length_le h1, List.take_of_length_le h2]
theorem sameM_self (M : Mem) : sameM M M = true := by unfold sameM; simp
/-- Either no words, or two or more. -/
def Two (M : Mem) : Prop := (M.W.length = 0 ∧ M.L.length = 0) ∨ (2 ≤ M.W.length ∧ 2 ≤ M.L.length)
/-- A memory's rows lie elsewhere than a variable that holds a memory. -/
theorem memL_put {W W' : World} {Z wn wc' ln lc' : Nat} {wa' la' : Option Addr} {F : Bool} {wa la : Option Addr} {wc lc : Nat} {M : Mem} {u0 u1 u2 : Value} (hZ : W.heap[Z]? = some (.cells #[.slice wa' wn wc', .slice la' ln lc', .bool F] 25 (0, 0))) (h : MemL W wa wc la lc M) (h2 : Two M)
    (hW : W' = ((W.setCell ⟨Z, 0, none⟩ u0).setCell ⟨Z, 1, none⟩ u1).setCell ⟨Z, 2, none⟩ u2) : MemL W' wa wc la lc M := by
  rcases h2 with ⟨q1, q2⟩ | ⟨q1, q2⟩
  · obtain ⟨a1, a2, -⟩ := h.w
    obtain ⟨b1, b2, -⟩ := h.l
    exact ⟨⟨a1, a2, .inl ⟨q1, by rw [List.eq_nil_of_length_eq_zero q1]; rfl⟩⟩, ⟨b1, b2, .inl ⟨q2, by rw [List.eq_nil_of_length_eq_zero q2]; rfl⟩⟩⟩
  · have hc : ∀ j, W.cell? ⟨Z, j, none⟩ = (#[.slice wa' wn wc', .slice la' ln lc', .bool F] : Array Value)[j]? := fun j => cell_of_row W Z j _ _ _ hZ
    have aw : apartA wa Z := by
      rintro b off e rfl
      obtain ⟨-, -, ⟨z, -⟩ | ⟨b', o', e', -, hcell⟩⟩ := h.w
      · omega
      · rw [e] at e'
        simp only [Option.some.injEq, Addr.mk.injEq, and_true] at e'
        obtain ⟨rfl, rfl⟩ := e'
        obtain ⟨x, hx⟩ : ∃ x, M.W[0]? = some x := ⟨_, List.getElem?_eq_getElem (by omega)⟩
        have h1 := hcell 0 _ (wcell_at hx)
        rw [Nat.add_zero, hc] at h1
        match off, h1 with
        | 0, h1 => simp at h1
        | 1, h1 => simp at h1
        | 2, h1 => simp at h1
        | k + 3, h1 => simp at h1
    have al : apartA la Z := by
      rintro b off e rfl
      obtain ⟨-, -, ⟨z, -⟩ | ⟨b', o', e', -, hcell⟩⟩ := h.l
      · omega
      · rw [e] at e'
        simp only [Option.some.injEq, Addr.mk.injEq, and_true] at e'
        obtain ⟨rfl, rfl⟩ := e'
        obtain ⟨x, hx⟩ : ∃ x, M.L[0]? = some x := ⟨_, List.getElem?_eq_getElem (by omega)⟩
        obtain ⟨y, hy⟩ : ∃ x, M.L[1]? = some x := ⟨_, List.getElem?_eq_getElem (by omega)⟩
        have h1 := hcell 0 _ (bcell_at hx)
        have h2 := hcell 1 _ (bcell_at hy)
        rw [Nat.add_zero, hc] at h1
        rw [hc] at h2
        match off, h1, h2 with
        | 0, h1, _ => simp at h1
        | 1, h1, _ => simp at h1
        | 2, _, h2 => simp at h2
        | k + 3, h1, _ => simp at h1
    rw [hW]
    exact ⟨((h.w.setNe aw).setNe aw).setNe aw, ((h.l.setNe al).setNe al).setNe al⟩
theorem putM4 {V : World} {Y : Nat} {z0 z1 z2 z3 : Value} {T : TypeId} (h : V.heap[Y]? = some (.cells #[z0, z1, z2, z3] T (0, 0))) (v0 v1 v2 v3 : Value) :
    ∃ V', V' = ((((V.setCell ⟨Y, 0, none⟩ v0).setCell ⟨Y, 1, none⟩ v1).setCell ⟨Y, 2, none⟩ v2).setCell ⟨Y, 3, none⟩ v3) ∧ V'.heap[Y]? = some (.cells #[v0, v1, v2, v3] T (0, 0)) ∧ (∀ (k : Nat) (o : Obj), k ≠ Y → V.heap[k]? = some o → V'.heap[k]? = some o) ∧ (∀ (B : Nat) (w : World), B ≤ Y → Below B w V → Below B w V') ∧
      (∀ (base : Nat) (wa : Option Addr) (wc : Nat) (la : Option Addr) (lc : Nat) (M : Mem), 26 ≠ T → 4 ≠ T → MemO base wa wc la lc M V → MemO base wa wc la lc M V') ∧ Tch (fun k => k = Y) V V' := by
  obtain ⟨V0, hV0⟩ : ∃ W, V.setCell ⟨Y, 0, none⟩ v0 = W := ⟨_, rfl⟩
  have h0 : V0.heap[Y]? = some (.cells #[v0, z1, z2, z3] T (0, 0)) := by rw [← hV0]; exact set_laid (i := 0) h v0
  obtain ⟨V1, hV1⟩ : ∃ W, V0.setCell ⟨Y, 1, none⟩ v1 = W := ⟨_, rfl⟩
  have h1 : V1.heap[Y]? = some (.cells #[v0, v1, z2, z3] T (0, 0)) := by rw [← hV1]; exact set_laid (i := 1) h0 v1
  obtain ⟨V2, hV2⟩ : ∃ W, V1.setCell ⟨Y, 2, none⟩ v2 = W := ⟨_, rfl⟩
  have h2 : V2.heap[Y]? = some (.cells #[v0, v1, v2, z3] T (0, 0)) := by rw [← hV2]; exact set_laid (i := 2) h1 v2
  obtain ⟨V3, hV3⟩ : ∃ W, V2.setCell ⟨Y, 3, none⟩ v3 = W := ⟨_, rfl⟩
  have h3 : V3.heap[Y]? = some (.cells #[v0, v1, v2, v3] T (0, 0)) := by rw [← hV3]; exact set_laid (i := 3) h2 v3
  refine ⟨V3, by rw [hV0, hV1, hV2, hV3], h3, fun k o hk ho => ?_, fun B w hB hb => ?_, fun base wa wc la lc M h1' h2' hm => ?_, ?_⟩
  · rw [← hV3, ← hV2, ← hV1, ← hV0]; exact (other_laid (other_laid (other_laid (other_laid ho hk _) hk _) hk _) hk _)
  · rw [← hV3, ← hV2, ← hV1, ← hV0]; exact ((((hb.setCell hB _).setCell hB _).setCell hB _).setCell hB _)
  · have m0 := hm.set h h1' h2' (i := 0) v0
    rw [hV0] at m0
    have m1 := m0.set h0 h1' h2' (i := 1) v1
    rw [hV1] at m1
    have m2 := m1.set h1 h1' h2' (i := 2) v2
    rw [hV2] at m2
    have m3 := m2.set h2 h1' h2' (i := 3) v3
    rw [hV3] at m3
    exact m3
  · rw [← hV3, ← hV2, ← hV1, ← hV0]; exact ((((Tch.set (P := fun k => k = Y) rfl _).trans (Tch.set (P := fun k => k = Y) rfl _)).trans (Tch.set (P := fun k => k = Y) rfl _)).trans (Tch.set (P := fun k => k = Y) rfl _))
theorem zeroM_two : Two zeroM := .inl ⟨rfl, rfl⟩
theorem live_two {M : Mem} {p : Nat} (hok : okM M = true) (h : liveN M (posL p 1) = true) : 2 ≤ M.W.length ∧ 2 ≤ M.L.length := by
  obtain ⟨-, -, q⟩ := live_small hok h
  obtain ⟨-, -, e, -⟩ := okM_spec hok
  omega
theorem ins_facts {M : Mem} {head : Nat} {t : Nd} (hW : ∀ x ∈ M.W, x < 18446744073709551616) (hh : head < 18446744073709551616) (ht : t.Ok) (hl : M.W.length ≤ 64 ∧ M.L.length ≤ 64) :
    (∀ x ∈ (insP M head t).1.W, x < 18446744073709551616) ∧ ((insP M head t).1.W.length ≤ 64 ∧ (insP M head t).1.L.length ≤ 64) ∧ Two (insP M head t).1 ∧ ((insP M head t).2.2 = 0 → okM (insP M head t).1 = true) := by
  have hz : (∀ x ∈ zeroM.W, x < 18446744073709551616) ∧ (zeroM.W.length ≤ 64 ∧ zeroM.L.length ≤ 64) ∧ Two zeroM := ⟨by intro x hx; simp [zeroM] at hx, ⟨by decide, by decide⟩, zeroM_two⟩
  unfold insP
  split
  · rename_i h0
    exact ⟨hz.1, hz.2.1, hz.2.2, fun e => absurd e h0⟩
  · rename_i h0
    have h0' : (nodesP M head).2 = 0 := by omega
    split
    · exact ⟨hz.1, hz.2.1, hz.2.2, fun e => by cases e⟩
    · rename_i hf
      have hf' : fitsP M head (nodesP M head).1 t = true := by simpa using hf
      split
      · exact ⟨hz.1, hz.2.1, hz.2.2, fun e => by cases e⟩
      · obtain ⟨hok, hns⟩ := nodesP_ok h0'
        have hs := findS_ok (hash := t.2.2.2) (key := t.2.1) ht.2.2.2 ht.2.1 head (nodesP M head).1 hh (fun x hx => by have := nodesP_nodes hW h0' x hx; exact ⟨by omega, this.2.2.2.1⟩)
        obtain ⟨r1, r2, r3, r4⟩ := editRun_keep 8 M (putK (findS t.2.2.2 t.2.1 head (nodesP M head).1).1.link t (findS t.2.2.2 t.2.1 head (nodesP M head).1).1.node) (findS t.2.2.2 t.2.1 head (nodesP M head).1).2 hok hW ⟨by unfold putK; dsimp only; decide, hs.link, ht.1, ht.2.1, ht.2.2.1, ht.2.2.2, hs.node⟩ (by show (0 : Int) ≤ 0; decide) (by show (0 : Int) ≤ 7; decide)
        have h2 := live_two hok ((fitsP_spec hf').2 1 (by decide)).1
        exact ⟨r2, ⟨by dsimp only; omega, by dsimp only; rw [r4]; exact hl.2⟩, .inr ⟨by dsimp only; omega, by dsimp only; rw [r4]; exact h2.2⟩, fun _ => r1⟩
theorem rem_facts {M : Mem} {head hash key : Nat} (hW : ∀ x ∈ M.W, x < 18446744073709551616) (hh : head < 18446744073709551616) (hha : hash < 18446744073709551616) (hke : key < 18446744073709551616) (hl : M.W.length ≤ 64 ∧ M.L.length ≤ 64) :
    (∀ x ∈ (remP M head hash key).1.W, x < 18446744073709551616) ∧ ((remP M head hash key).1.W.length ≤ 64 ∧ (remP M head hash key).1.L.length ≤ 64) ∧ Two (remP M head hash key).1 ∧ ((remP M head hash key).2.2 = 0 → okM (remP M head hash key).1 = true) := by
  have hz : (∀ x ∈ zeroM.W, x < 18446744073709551616) ∧ (zeroM.W.length ≤ 64 ∧ zeroM.L.length ≤ 64) ∧ Two zeroM := ⟨by intro x hx; simp [zeroM] at hx, ⟨by decide, by decide⟩, zeroM_two⟩
  unfold remP
  split
  · rename_i h0
    exact ⟨hz.1, hz.2.1, hz.2.2, fun e => absurd e h0⟩
  · rename_i h0
    have h0' : (nodesP M head).2 = 0 := by omega
    split
    · exact ⟨hz.1, hz.2.1, hz.2.2, fun e => by cases e⟩
    · rename_i hf
      have hf' : (findS hash key head (nodesP M head).1).1.found = true := by simpa using hf
      obtain ⟨hok, hns⟩ := nodesP_ok h0'
      have hs := findS_ok (hash := hash) (key := key) hha hke head (nodesP M head).1 hh (fun x hx => by have := nodesP_nodes hW h0' x hx; exact ⟨by omega, this.2.2.2.1⟩)
      obtain ⟨r1, r2, r3, r4⟩ := editRun_keep 8 M (cutK (findS hash key head (nodesP M head).1).1.link (findS hash key head (nodesP M head).1).1.node) (findS hash key head (nodesP M head).1).2 hok hW ⟨by unfold cutK; dsimp only; decide, hs.link, hs.node, by unfold cutK; dsimp only; decide, by unfold cutK; dsimp only; decide, by unfold cutK; dsimp only; decide, by unfold cutK; dsimp only; decide⟩ (by show (0 : Int) ≤ 4; decide) (by show (4 : Int) ≤ 7; decide)
      obtain ⟨x, hx, e1, -, -, -⟩ := findS_found head _ hf'
      have h2 := live_two hok ((chain_live hok _ _ (nodesW_chain (nodesR_some hns).1).2 x hx).2.1 1 (by decide))
      exact ⟨r2, ⟨by dsimp only; omega, by dsimp only; rw [r4]; exact hl.2⟩, .inr ⟨by dsimp only; omega, by dsimp only; rw [r4]; exact h2.2⟩, fun _ => r1⟩
theorem insP_no {M : Mem} {head : Nat} {t : Nd} {c : Nat} (h : (okM M = false ∧ c = 120) ∨ (okM M = true ∧ nodesR M head = none ∧ c = 250)) : insP M head t = (zeroM, 0, c) := by
  unfold insP
  rcases h with ⟨h1, rfl⟩ | ⟨h1, h2, rfl⟩
  · rw [nodesP_bad h1]; rw [if_pos (by simp)]
  · rw [nodesP_none h1 h2]; rw [if_pos (by simp)]
theorem remP_no {M : Mem} {head hash key : Nat} {c : Nat} (h : (okM M = false ∧ c = 120) ∨ (okM M = true ∧ nodesR M head = none ∧ c = 250)) : remP M head hash key = (zeroM, 0, c) := by
  unfold remP
  rcases h with ⟨h1, rfl⟩ | ⟨h1, h2, rfl⟩
  · rw [nodesP_bad h1]; rw [if_pos (by simp)]
  · rw [nodesP_none h1 h2]; rw [if_pos (by simp)]
/-- What the document's list is. -/
def PreP (V : World) (Mk : Mem) (head : Nat) (b : Bool) (c : Nat) (tv : Value) (W : World) : Prop :=
  (b = false ∧ ((okM Mk = false ∧ c = 120) ∨ (okM Mk = true ∧ nodesR Mk head = none ∧ c = 250))) ∨ (b = true ∧ okM Mk = true ∧ ∃ xs, nodesR Mk head = some xs ∧ W.ownsRow V.heap.size 38 4 tv xs.length (ndcells xs))
theorem PreP.grow {V : World} {Mk : Mem} {head : Nat} {b : Bool} {c : Nat} {tv : Value} {W W' : World} (h : PreP V Mk head b c tv W) (hb : Below W.heap.size W W') : PreP V Mk head b c tv W' := by
  rcases h with h | ⟨h1, h2, xs, h3, h4⟩
  · exact .inl h
  · exact .inr ⟨h1, h2, xs, h3, own_grow h4 hb⟩
theorem PreP.put {V : World} {Mk : Mem} {head : Nat} {b : Bool} {c : Nat} {tv : Value} {W W' : World} {Y : Nat} {cs : Array Value} {e : TypeId} (h : PreP V Mk head b c tv W) (hY : W.heap[Y]? = some (.cells cs e (0, 0))) (hne : 38 ≠ e) (hk : ∀ (k : Nat) (o : Obj), k ≠ Y → W.heap[k]? = some o → W'.heap[k]? = some o) : PreP V Mk head b c tv W' := by
  rcases h with h | ⟨h1, h2, xs, h3, h4⟩
  · exact .inl h
  · exact .inr ⟨h1, h2, xs, h3, own_keep h4 fun k o hk' ho => hk k o (fun e => own_ne h4 hY hne (by rw [← e]; exact hk')) ho⟩
/-- Worlds in which two variables lie so. -/
structure RMB (X Y : Nat) (cs cs' : Array Value) where
  w : World
  bx : w.heap[X]? = some (.cells cs 25 (0, 0))
  by_ : w.heap[Y]? = some (.cells cs' 38 (0, 0))
/-- What a round keeps. -/
structure Edr (V : World) (Mb : Nat) (wak : Option Addr) (wck : Nat) (lak : Option Addr) (lck : Nat) (Mk : Mem) (W : World) : Prop where
  bm : W.heap[Mb]? = some (.cells #[.slice wak Mk.W.length wck, .slice lak Mk.L.length lck, .bool Mk.F] 25 (0, 0))
  mem : MemO V.heap.size wak wck lak lck Mk W
  below : Below V.heap.size V W
/-- Between two rounds. -/
structure Edq (V : World) (Mb : Nat) (wak : Option Addr) (wck : Nat) (lak : Option Addr) (lck : Nat) (Mk : Mem) (okb : Bool) (W : World) : Prop where
  bm : W.heap[Mb]? = some (.cells #[.slice wak Mk.W.length wck, .slice lak Mk.L.length lck, .bool Mk.F] 25 (0, 0))
  mem : MemO V.heap.size wak wck lak lck Mk W
  below : Below V.heap.size V W
  wok : ∀ x ∈ Mk.W, x < 18446744073709551616
  len : Mk.W.length ≤ 64 ∧ Mk.L.length ≤ 64
  ok : okM Mk = okb
set_option maxRecDepth 100000 in
set_option maxHeartbeats 32000000 in
theorem edits_walk (M : Mem) (head : Nat) (ls : List Nd) (wa la : Option Addr) (wc0M lc : Nat) (a : Option Addr) (n cap : Nat) (V : World) (h : MemL V wa wc0M la lc M) (hW : ∀ x ∈ M.W, x < 18446744073709551616) (hh : head < 18446744073709551616) (hl : ls.length = n) (hle : Leads V a n cap (ndcells ls)) (hsb : ∀ t ∈ ls, t.Ok) :
    Calls Try.prog 4 #[memV wa wc0M la lc M, .int .u64 ((head : Nat) : Int), .slice a n cap] V (Ret (.bool true) V) := by
  obtain ⟨V1, hV1, hbV1, hsV1, hlV1⟩ := laid V #[.slice wa M.W.length wc0M, .slice la M.L.length lc, .bool M.F] 25
  obtain ⟨X, hX⟩ : ∃ X, V.heap.size = X := ⟨_, rfl⟩
  rw [hX] at hlV1
  have KX := hid hlV1
  have HB := hid hbV1
  have hVX : V.heap.size ≤ X := by omega
  clear hbV1 hsV1 hlV1
  have HWK := hid (take64_wok hW)
  have HSB := hid hsb
  have HLN := hid hl
  have HLE := hid hle
  have hwl := h.w.len
  have hll := h.l.len
  have hnl := hle.len
  have HOWN : Hid (∀ W : World, Below V.heap.size V W → Calls Try.prog 9 #[.agg #[.slice wa M.W.length wc0M, .slice la M.L.length lc, .bool M.F]] W (GivesM (take64 M) W)) := hid (fun W hb => lawown_any M wa la wc0M lc W (h.grow hb))
  have HLEN := hid (take64_len M)
  obtain ⟨Mz, hMz⟩ : ∃ Mk, take64 M = Mk := ⟨_, rfl⟩
  rw [hMz] at HOWN HWK HLEN
  unfold memV
  clear h hW hsb hl hle hMz
  go_enter Try.func4, Try.ntmps4
  go_wp2_with fail
  refine (wakes_any V1).mono ?_
  rintro e w1_184 ⟨rfl, hbn⟩
  have KX_1 := hid (keep_laid KX.out hbn)
  have HB_2 := hid (HB.out.trans (hbn.mono HB.out.size))
  clear KX HB hbn
  clear hX
  obtain ⟨x0, x1, x2⟩ := cells3 KX_1.out
  have hs0 := HB_2.out.size
  go_wp2_with fail
  refine (HOWN.out w1_184 HB_2.out).mono ?_
  rintro e w2_193 ⟨wa0, wc0, la0, lc0, rfl, hO, hbn⟩
  have KX_3 := hid (keep_laid KX_1.out hbn)
  have HB_4 := hid (HB_2.out.trans (hbn.mono HB_2.out.size))
  clear KX_1 HB_2 hbn x0 x1 x2
  have HM := hid (hO.base hs0)
  clear hO
  obtain ⟨w3_201, hw3_201, hbn, hsn, hln⟩ := laid w2_193 #[.slice none 0 0, .slice none 0 0, .bool false] 25
  obtain ⟨Mb, hNMMb⟩ : ∃ X, w2_193.heap.size = X := ⟨_, rfl⟩
  rw [hNMMb] at hln
  have nXMb : X < Mb := by have := lt_laid KX_3.out; omega
  have hVMb : V.heap.size ≤ Mb := by have := HB_4.out.size; omega
  have KX_5 := hid (keep_laid KX_3.out hbn)
  have HB_6 := hid (HB_4.out.trans (hbn.mono HB_4.out.size))
  have HM_7 := hid (HM.out.grow hbn)
  clear KX_3 HB_4 HM hbn hsn
  have KMb_8 := hid (hln)
  clear hln
  rw [show memV wa0 wc0 la0 lc0 Mz = .agg #[.slice wa0 Mz.W.length wc0, .slice la0 Mz.L.length lc0, .bool Mz.F] from rfl]
  obtain ⟨u4_213, hu4_213, a1, a2, a3, a4⟩ := put_mem KMb_8.out (.slice wa0 Mz.W.length wc0) (.slice la0 Mz.L.length lc0) (.bool Mz.F)
  obtain ⟨z0, zf0, z1, zf1, z2, zf2⟩ := fcl3 KMb_8.out
  have E5_213 := hid hu4_213
  have KX_9 := hid (a2 X _ (by omega) KX_5.out)
  have HB_10 := hid (a3 _ _ (by omega) HB_6.out)
  have HM_11 := hid (a4 _ _ _ _ _ _ HM_7.out)
  have KMb_12 := hid (a1)
  clear KX_5 HB_6 HM_7 KMb_8 hu4_213 a1 a2 a3 a4
  go_upto_region 4 with (fail)
  rw [← E5_213.out]
  clear z0 z1 z2 zf0 zf1 zf2 hNMMb
  have hwlk := HM_11.out.memL.w.len
  have hllk := HM_11.out.memL.l.len
  have HRI := hid (RefRight_any Mz wa0 la0 wc0 lc0 u4_213 HM_11.out.memL)
  unfold memV at HRI
  obtain ⟨m0, m1, m2⟩ := cells3 KMb_12.out
  go_wp2_with fail
  refine (HRI.out).mono ?_
  rintro e w6_229 ⟨rfl, hbn⟩
  have KX_13 := hid (keep_laid KX_9.out hbn)
  have HB_14 := hid (HB_10.out.trans (hbn.mono HB_10.out.size))
  have HM_15 := hid (HM_11.out.grow hbn)
  have KMb_16 := hid (keep_laid KMb_12.out hbn)
  clear KX_9 HB_10 HM_11 KMb_12 hbn m0 m1 m2 HRI
  obtain ⟨OKB, hOKB⟩ : ∃ b, okM Mz = b := ⟨_, rfl⟩
  rw [hOKB]
  have HS6 : Hid (Edq V Mb wa0 wc0 la0 lc0 Mz OKB w6_229) := hid ⟨KMb_16.out, HM_15.out, HB_14.out, HWK.out, HLEN.out, hOKB⟩
  clear KX_13 HB_14 HM_15 KMb_16
  have HVM := hid hVMb
  clear hOKB HOWN HWK HLEN hwlk hllk hs0 hVMb
  go_wp2
  go_loopg [34] n (fun g t34 wr => ∃ (k : Nat) (wak : Option Addr) (wck : Nat) (lak : Option Addr) (lck : Nat) (Mk : Mem), g + k = n ∧ t34 = .int .i64 ((k : Nat) : Int) ∧ Hid (Edq V Mb wak wck lak lck Mk OKB wr))
  case atStart => exact ⟨0, _, _, _, _, _, rfl, rfl, HS6⟩
  case round =>
    clear HS6
    obtain ⟨k, wak, wck, lak, lck, Mk, hk, rfl, hS⟩ := hrel
    have HK := hid hk
    clear hk
    by_cases hlt : k < n
    · skip
      have HMB := hid hS.out.bm
      have HM := hid hS.out.mem
      have HB := hid hS.out.below
      have HQ := hid (show (∀ x ∈ Mk.W, x < 18446744073709551616) ∧ (Mk.W.length ≤ 64 ∧ Mk.L.length ≤ 64) ∧ okM Mk = OKB from ⟨hS.out.wok, hS.out.len, hS.out.ok⟩)
      clear hS
      obtain ⟨⟨p0, p1, p2, p3⟩, hp⟩ : ∃ x, ls[k]? = some x := ⟨_, List.getElem?_eq_getElem (by rw [HLN.out]; exact hlt)⟩
      have HPO := hid (HSB.out _ (List.mem_of_getElem? hp))
      obtain ⟨b1, o1, rfl, -, hc1⟩ := HLE.out.nd hlt hp
      obtain ⟨c0, c1, c2, c3⟩ := hc1 wr HB.out
      have hwlk := HM.out.memL.w.len
      have hllk := HM.out.memL.l.len
      clear hp hc1
      have hVMb := HVM.out
      obtain ⟨w7_266, hw7_266, hbn, hsn, hln⟩ := laid wr #[.int .u64 0, .int .u64 0, .int .u64 0, .int .u64 0] 38
      obtain ⟨B, hNMB⟩ : ∃ X, wr.heap.size = X := ⟨_, rfl⟩
      rw [hNMB] at hln
      have nMbB : Mb < B := by have := lt_laid HMB.out; omega
      have hVB : V.heap.size ≤ B := by have := HB.out.size; omega
      have HMB_17 := hid (keep_laid HMB.out hbn)
      have HM_18 := hid (HM.out.grow hbn)
      have HB_19 := hid (HB.out.trans (hbn.mono HB.out.size))
      clear HMB HM HB hbn hsn
      have KB_20 := hid (hln)
      clear hln
      have hwrB : wr.heap.size ≤ B := by omega
      obtain ⟨u8_278, hu8_278, a1, a2, a3, a4, a5⟩ := putM4 KB_20.out (.int .u64 ((p0 : Nat) : Int)) (.int .u64 ((p1 : Nat) : Int)) (.int .u64 ((p2 : Nat) : Int)) (.int .u64 ((p3 : Nat) : Int))
      obtain ⟨z0, zf0, z1, zf1, z2, zf2, z3, zf3⟩ := fcl4 KB_20.out
      have E9_278 := hid hu8_278
      have HMB_21 := hid (a2 Mb _ (by omega) HMB_17.out)
      have HM_22 := hid (a4 _ _ _ _ _ _ (by decide) (by decide) HM_18.out)
      have HB_23 := hid (a3 _ _ (by omega) HB_19.out)
      have KB_24 := hid (a1)
      clear HMB_17 HM_18 HB_19 KB_20 hu8_278 a1 a2 a3 a4 a5
      go_upto_region 8 with (fail)
      rw [← E9_278.out]
      clear z0 z1 z2 z3 zf0 zf1 zf2 zf3 hNMB c0 c1 c2 c3
      by_cases h6 : k = 6
      · have t6 : (((k : Nat) : Int) == 6) = true := by simp; omega
        go_wp2
        go_ret
        exact ⟨rfl, HB_23.out⟩
      · have t6 : (((k : Nat) : Int) == 6) = false := by simp; omega
        clear h6
        have hwrs : wr.heap.size ≤ u8_278.heap.size := by have := lt_laid KB_24.out; omega
        have hVu := HB_23.out.size
        go_upto_if 41 with (fail)
        go_cut [11, 12, 13] (fun t11 t12 t13 W => ∃ tv b cc, t11 = tv ∧ t12 = .bool b ∧ t13 = .int .i64 ((cc : Nat) : Int) ∧ Hid (W.heap[Mb]? = some (.cells #[.slice wak Mk.W.length wck, .slice lak Mk.L.length lck, .bool Mk.F] 25 (0, 0)) ∧ W.heap[B]? = some (.cells #[.int .u64 ((p0 : Nat) : Int), .int .u64 ((p1 : Nat) : Int), .int .u64 ((p2 : Nat) : Int), .int .u64 ((p3 : Nat) : Int)] 38 (0, 0)) ∧ MemO V.heap.size wak wck lak lck Mk W ∧ Below V.heap.size V W ∧ wr.heap.size ≤ W.heap.size ∧ PreP V Mk head b cc tv W))
        case first =>
          cases OKB with
          | false =>
            clear t6
            go_wp2
            go_meet
            exact ⟨_, false, 120, rfl, rfl, rfl, hid ⟨HMB_21.out, KB_24.out, HM_22.out, HB_23.out, hwrs, .inl ⟨rfl, .inl ⟨HQ.out.2.2, rfl⟩⟩⟩⟩
          | true =>
            have HRN := hid (rNodes_any Mk wak lak wck lck head u8_278 HM_22.out.memL HQ.out.2.2 hh HQ.out.1)
            unfold memV GivesRN at HRN
            obtain ⟨m0, m1, m2⟩ := cells3 HMB_21.out
            clear t6
            go_wp2_with fail
            refine HRN.out.mono ?_
            rintro e w4 ⟨vw, bw, rfl, hbn, hno, hso⟩
            have hs4 := Nat.le_trans hwrs hbn.size
            have HMB_25 := hid (keep_laid HMB_21.out hbn)
            have HM_26 := hid (HM_22.out.grow hbn)
            have HB_27 := hid (HB_23.out.trans (hbn.mono HB_23.out.size))
            have KB_28 := hid (keep_laid KB_24.out hbn)
            clear HMB_21 HM_22 HB_23 KB_24 hbn m0 m1 m2 HRN
            cases hnn : nodesR Mk head with
            | none =>
              obtain ⟨rfl, rfl⟩ := hno hnn
              have HNN := hid hnn
              clear hso hnn hno
              go_wp2
              go_meet
              exact ⟨_, false, 250, rfl, rfl, rfl, hid ⟨HMB_25.out, KB_28.out, HM_26.out, HB_27.out, hs4, .inl ⟨rfl, .inr ⟨HQ.out.2.2, HNN.out, rfl⟩⟩⟩⟩
            | some xs =>
              obtain ⟨rfl, hro⟩ := hso xs hnn
              obtain ⟨vx, vy, rfl, hlx⟩ := Leads.of_own hro
              have hxl := hlx.len
              have HNN := hid hnn
              have HLX := hid (row_base hro (base' := V.heap.size) hVu)
              clear hno hso hnn hro hlx
              go_wp2
              go_meet
              exact ⟨_, true, 250, rfl, rfl, rfl, hid ⟨HMB_25.out, KB_28.out, HM_26.out, HB_27.out, hs4, .inr ⟨rfl, HQ.out.2.2, xs, HNN.out, HLX.out⟩⟩⟩
        case rest =>
          clear HMB_21 HM_22 HB_23 KB_24
          clear t6 hwrs
          obtain ⟨tv, b, cc, rfl, rfl, rfl, hcc⟩ := hcut
          obtain ⟨w4, hw4⟩ : ∃ W, W = wc := ⟨_, rfl⟩
          subst hw4
          have HMB := hid hcc.out.1
          have KB := hid hcc.out.2.1
          have HM := hid hcc.out.2.2.1
          have HB := hid hcc.out.2.2.2.1
          have hw4s := hcc.out.2.2.2.2.1
          have HP := hid hcc.out.2.2.2.2.2
          clear hcc
          obtain ⟨⟨Ma, sa, ca⟩, hRa⟩ : ∃ R, insP Mk head (p0, p1, p2, p3) = R := ⟨_, rfl⟩
          obtain ⟨⟨Mc, sc, cb⟩, hRb⟩ : ∃ R, remP Mk head p3 p1 = R := ⟨_, rfl⟩
          have HFA := hid (ins_facts (head := head) (t := (p0, p1, p2, p3)) HQ.out.1 hh HPO.out HQ.out.2.1)
          have HFB := hid (rem_facts (head := head) (hash := p3) (key := p1) HQ.out.1 hh HPO.out.2.2.2 HPO.out.2.1 HQ.out.2.1)
          rw [hRa] at HFA
          rw [hRb] at HFB
          have HIN := hid (Insert_any Mk wak lak wck lck head (p0, p1, p2, p3) w4 HM.out.memL HQ.out.1 hh HPO.out)
          rw [hRa] at HIN
          unfold GivesI memV ndV at HIN
          dsimp only at HIN
          have HRE : Hid (∀ W, MemL W wak wck lak lck Mk → _) := hid (fun W hm => Remove_any Mk wak lak wck lck head p3 p1 W hm HQ.out.1 hh HPO.out.2.2.2 HPO.out.2.1)
          rw [hRb] at HRE
          unfold GivesU memV at HRE
          dsimp only at HRE
          have HRA := hid hRa
          have HRB := hid hRb
          clear hRa hRb
          obtain ⟨m0, m1, m2⟩ := cells3 HMB.out
          obtain ⟨y0, y1, y2, y3⟩ := ncl4 KB.out
          have hV4s := HB.out.size
          go_wp2_with fail
          refine (HIN.out).mono ?_
          rintro e w10_372 ⟨wan, wcn, lan, lcn, rfl, hO, hbn⟩
          have HMB_25 := hid (keep_laid HMB.out hbn)
          have KB_26 := hid (keep_laid KB.out hbn)
          have HM_27 := hid (HM.out.grow hbn)
          have HB_28 := hid (HB.out.trans (hbn.mono HB.out.size))
          have HP_29 := hid (HP.out.grow hbn)
          clear HMB KB HM HB HP hbn m0 m1 m2 HIN y0 y1 y2 y3
          have HNA := hid (hO.base hV4s)
          clear hO
          have hwn := HNA.out.memL.w.len
          have hln := HNA.out.memL.l.len
          obtain ⟨w11_385, hw11_385, hbn, hsn, hln⟩ := laid w10_372 #[.slice none 0 0, .slice none 0 0, .bool false] 25
          obtain ⟨A, hNMA⟩ : ∃ X, w10_372.heap.size = X := ⟨_, rfl⟩
          rw [hNMA] at hln
          have nMbA : Mb < A := by have := lt_laid HMB_25.out; omega
          have nBA : B < A := by have := lt_laid KB_26.out; omega
          have hVA : V.heap.size ≤ A := by have := HB_28.out.size; omega
          have HMB_30 := hid (keep_laid HMB_25.out hbn)
          have KB_31 := hid (keep_laid KB_26.out hbn)
          have HM_32 := hid (HM_27.out.grow hbn)
          have HB_33 := hid (HB_28.out.trans (hbn.mono HB_28.out.size))
          have HP_34 := hid (HP_29.out.grow hbn)
          have HNA_35 := hid (HNA.out.grow hbn)
          clear HMB_25 KB_26 HM_27 HB_28 HP_29 HNA hbn hsn
          have KA_36 := hid (hln)
          clear hln
          obtain ⟨u12_400, hu12_400, a1, a2, a3, a4⟩ := put_mem KA_36.out (.slice wan Ma.W.length wcn) (.slice lan Ma.L.length lcn) (.bool Ma.F)
          obtain ⟨z0, zf0, z1, zf1, z2, zf2⟩ := fcl3 KA_36.out
          have E13_400 := hid hu12_400
          have HMB_37 := hid (a2 Mb _ (by omega) HMB_30.out)
          have KB_38 := hid (a2 B _ (by omega) KB_31.out)
          have HM_39 := hid (a4 _ _ _ _ _ _ HM_32.out)
          have HB_40 := hid (a3 _ _ (by omega) HB_33.out)
          have HP_41 := hid (HP_34.out.put KA_36.out (by decide) a2)
          have HNA_42 := hid (a4 _ _ _ _ _ _ HNA_35.out)
          have KA_43 := hid (a1)
          clear HMB_30 KB_31 HM_32 HB_33 HP_34 HNA_35 KA_36 hu12_400 a1 a2 a3 a4
          go_upto_region 15 with (fail)
          rw [← E13_400.out]
          clear z0 z1 z2 zf0 zf1 zf2 hNMA
          obtain ⟨m0, m1, m2⟩ := cells3 HMB_37.out
          have y1 := cell_laid (i := 1) KB_38.out rfl
          have y3 := cell_laid (i := 3) KB_38.out rfl
          have hVu := HB_40.out.size
          go_wp2_with fail
          refine (HRE.out u12_400 HM_39.out.memL).mono ?_
          rintro e w14_418 ⟨war, wcr, lar, lcr, rfl, hO, hbn⟩
          have HMB_44 := hid (keep_laid HMB_37.out hbn)
          have KB_45 := hid (keep_laid KB_38.out hbn)
          have HM_46 := hid (HM_39.out.grow hbn)
          have HB_47 := hid (HB_40.out.trans (hbn.mono HB_40.out.size))
          have HP_48 := hid (HP_41.out.grow hbn)
          have HNA_49 := hid (HNA_42.out.grow hbn)
          have KA_50 := hid (keep_laid KA_43.out hbn)
          clear HMB_37 KB_38 HM_39 HB_40 HP_41 HNA_42 KA_43 hbn m0 m1 m2 y1 y3 HRE
          have HNC := hid (hO.base hVu)
          clear hO
          have hwr := HNC.out.memL.w.len
          have hlr := HNC.out.memL.l.len
          obtain ⟨w15_433, hw15_433, hbn, hsn, hln⟩ := laid w14_418 #[.slice none 0 0, .slice none 0 0, .bool false] 25
          obtain ⟨R, hNMR⟩ : ∃ X, w14_418.heap.size = X := ⟨_, rfl⟩
          rw [hNMR] at hln
          have nMbR : Mb < R := by have := lt_laid HMB_44.out; omega
          have nBR : B < R := by have := lt_laid KB_45.out; omega
          have nAR : A < R := by have := lt_laid KA_50.out; omega
          have hVR : V.heap.size ≤ R := by have := HB_47.out.size; omega
          have HMB_51 := hid (keep_laid HMB_44.out hbn)
          have KB_52 := hid (keep_laid KB_45.out hbn)
          have HM_53 := hid (HM_46.out.grow hbn)
          have HB_54 := hid (HB_47.out.trans (hbn.mono HB_47.out.size))
          have HP_55 := hid (HP_48.out.grow hbn)
          have HNA_56 := hid (HNA_49.out.grow hbn)
          have KA_57 := hid (keep_laid KA_50.out hbn)
          have HNC_58 := hid (HNC.out.grow hbn)
          clear HMB_44 KB_45 HM_46 HB_47 HP_48 HNA_49 KA_50 HNC hbn hsn
          have KR_59 := hid (hln)
          clear hln
          obtain ⟨u16_451, hu16_451, a1, a2, a3, a4⟩ := put_mem KR_59.out (.slice war Mc.W.length wcr) (.slice lar Mc.L.length lcr) (.bool Mc.F)
          obtain ⟨z0, zf0, z1, zf1, z2, zf2⟩ := fcl3 KR_59.out
          have E17_451 := hid hu16_451
          have HMB_60 := hid (a2 Mb _ (by omega) HMB_51.out)
          have KB_61 := hid (a2 B _ (by omega) KB_52.out)
          have HM_62 := hid (a4 _ _ _ _ _ _ HM_53.out)
          have HB_63 := hid (a3 _ _ (by omega) HB_54.out)
          have HP_64 := hid (HP_55.out.put KR_59.out (by decide) a2)
          have HNA_65 := hid (a4 _ _ _ _ _ _ HNA_56.out)
          have KA_66 := hid (a2 A _ (by omega) KA_57.out)
          have HNC_67 := hid (a4 _ _ _ _ _ _ HNC_58.out)
          have KR_68 := hid (a1)
          clear HMB_51 KB_52 HM_53 HB_54 HP_55 HNA_56 KA_57 HNC_58 KR_59 hu16_451 a1 a2 a3 a4
          go_upto_region 16 with (fail)
          rw [← E17_451.out]
          clear z0 z1 z2 zf0 zf1 zf2 hNMR
          obtain ⟨w18_467, hw18_467, hbn, hsn, hln⟩ := laid u16_451 #[.slice none 0 0, .slice none 0 0, .bool false] 25
          obtain ⟨Ca, hNMCa⟩ : ∃ X, u16_451.heap.size = X := ⟨_, rfl⟩
          rw [hNMCa] at hln
          have nMbCa : Mb < Ca := by have := lt_laid HMB_60.out; omega
          have nBCa : B < Ca := by have := lt_laid KB_61.out; omega
          have nACa : A < Ca := by have := lt_laid KA_66.out; omega
          have nRCa : R < Ca := by have := lt_laid KR_68.out; omega
          have hVCa : V.heap.size ≤ Ca := by have := HB_63.out.size; omega
          have HMB_69 := hid (keep_laid HMB_60.out hbn)
          have KB_70 := hid (keep_laid KB_61.out hbn)
          have HM_71 := hid (HM_62.out.grow hbn)
          have HB_72 := hid (HB_63.out.trans (hbn.mono HB_63.out.size))
          have HP_73 := hid (HP_64.out.grow hbn)
          have HNA_74 := hid (HNA_65.out.grow hbn)
          have KA_75 := hid (keep_laid KA_66.out hbn)
          have HNC_76 := hid (HNC_67.out.grow hbn)
          have KR_77 := hid (keep_laid KR_68.out hbn)
          clear HMB_60 KB_61 HM_62 HB_63 HP_64 HNA_65 KA_66 HNC_67 KR_68 hbn hsn
          have KCa_78 := hid (hln)
          clear hln
          obtain ⟨u19_487, hu19_487, a1, a2, a3, a4⟩ := put_mem KCa_78.out (.slice none 0 0) (.slice none 0 0) (.bool false)
          obtain ⟨z0, zf0, z1, zf1, z2, zf2⟩ := fcl3 KCa_78.out
          have E20_487 := hid hu19_487
          have HMB_79 := hid (a2 Mb _ (by omega) HMB_69.out)
          have KB_80 := hid (a2 B _ (by omega) KB_70.out)
          have HM_81 := hid (a4 _ _ _ _ _ _ HM_71.out)
          have HB_82 := hid (a3 _ _ (by omega) HB_72.out)
          have HP_83 := hid (HP_73.out.put KCa_78.out (by decide) a2)
          have HNA_84 := hid (a4 _ _ _ _ _ _ HNA_74.out)
          have KA_85 := hid (a2 A _ (by omega) KA_75.out)
          have HNC_86 := hid (a4 _ _ _ _ _ _ HNC_76.out)
          have KR_87 := hid (a2 R _ (by omega) KR_77.out)
          have KCa_88 := hid (a1)
          clear HMB_69 KB_70 HM_71 HB_72 HP_73 HNA_74 KA_75 HNC_76 KR_77 KCa_78 hu19_487 a1 a2 a3 a4
          go_upto_region 17 with (fail)
          rw [← E20_487.out]
          clear z0 z1 z2 zf0 zf1 zf2 hNMCa
          obtain ⟨w21_504, hw21_504, hbn, hsn, hln⟩ := laid u19_487 #[.slice none 0 0, .slice none 0 0, .bool false] 25
          obtain ⟨Da, hNMDa⟩ : ∃ X, u19_487.heap.size = X := ⟨_, rfl⟩
          rw [hNMDa] at hln
          have nMbDa : Mb < Da := by have := lt_laid HMB_79.out; omega
          have nBDa : B < Da := by have := lt_laid KB_80.out; omega
          have nADa : A < Da := by have := lt_laid KA_85.out; omega
          have nRDa : R < Da := by have := lt_laid KR_87.out; omega
          have nCaDa : Ca < Da := by have := lt_laid KCa_88.out; omega
          have hVDa : V.heap.size ≤ Da := by have := HB_82.out.size; omega
          have HMB_89 := hid (keep_laid HMB_79.out hbn)
          have KB_90 := hid (keep_laid KB_80.out hbn)
          have HM_91 := hid (HM_81.out.grow hbn)
          have HB_92 := hid (HB_82.out.trans (hbn.mono HB_82.out.size))
          have HP_93 := hid (HP_83.out.grow hbn)
          have HNA_94 := hid (HNA_84.out.grow hbn)
          have KA_95 := hid (keep_laid KA_85.out hbn)
          have HNC_96 := hid (HNC_86.out.grow hbn)
          have KR_97 := hid (keep_laid KR_87.out hbn)
          have KCa_98 := hid (keep_laid KCa_88.out hbn)
          clear HMB_79 KB_80 HM_81 HB_82 HP_83 HNA_84 KA_85 HNC_86 KR_87 KCa_88 hbn hsn
          have KDa_99 := hid (hln)
          clear hln
          obtain ⟨u22_526, hu22_526, a1, a2, a3, a4⟩ := put_mem KDa_99.out (.slice none 0 0) (.slice none 0 0) (.bool false)
          obtain ⟨z0, zf0, z1, zf1, z2, zf2⟩ := fcl3 KDa_99.out
          have E23_526 := hid hu22_526
          have HMB_100 := hid (a2 Mb _ (by omega) HMB_89.out)
          have KB_101 := hid (a2 B _ (by omega) KB_90.out)
          have HM_102 := hid (a4 _ _ _ _ _ _ HM_91.out)
          have HB_103 := hid (a3 _ _ (by omega) HB_92.out)
          have HP_104 := hid (HP_93.out.put KDa_99.out (by decide) a2)
          have HNA_105 := hid (a4 _ _ _ _ _ _ HNA_94.out)
          have KA_106 := hid (a2 A _ (by omega) KA_95.out)
          have HNC_107 := hid (a4 _ _ _ _ _ _ HNC_96.out)
          have KR_108 := hid (a2 R _ (by omega) KR_97.out)
          have KCa_109 := hid (a2 Ca _ (by omega) KCa_98.out)
          have KDa_110 := hid (a1)
          clear HMB_89 KB_90 HM_91 HB_92 HP_93 HNA_94 KA_95 HNC_96 KR_97 KCa_98 KDa_99 hu22_526 a1 a2 a3 a4
          go_upto_if 71 with (fail)
          rw [← E23_526.out]
          clear z0 z1 z2 zf0 zf1 zf2 hNMDa
          go_cut [21, 22, 24, 25] (fun t21 t22 t24 t25 W => t21 = .int .i64 ((sa : Nat) : Int) ∧ t22 = .int .i64 ((ca : Nat) : Int) ∧ t24 = .int .u64 ((sc : Nat) : Int) ∧ t25 = .int .i64 ((cb : Nat) : Int) ∧ Hid (∃ waw wcw law lcw wax wcx lax lcx, Edr V Mb wak wck lak lck Mk W ∧ MemO V.heap.size wan wcn lan lcn Ma W ∧ MemO V.heap.size war wcr lar lcr Mc W ∧ W.heap[A]? = some (.cells #[.slice wan Ma.W.length wcn, .slice lan Ma.L.length lcn, .bool Ma.F] 25 (0, 0)) ∧ W.heap[R]? = some (.cells #[.slice war Mc.W.length wcr, .slice lar Mc.L.length lcr, .bool Mc.F] 25 (0, 0)) ∧ W.heap[Ca]? = some (.cells #[.slice waw Ma.W.length wcw, .slice law Ma.L.length lcw, .bool Ma.F] 25 (0, 0)) ∧ W.heap[Da]? = some (.cells #[.slice wax Mc.W.length wcx, .slice lax Mc.L.length lcx, .bool Mc.F] 25 (0, 0)) ∧ MemL W waw wcw law lcw Ma ∧ MemL W wax wcx lax lcx Mc))
          case first =>
            rcases HP_104.out with ⟨rfl, hno⟩ | ⟨rfl, hok, xs, hnn, hro⟩
            · skip
              obtain ⟨rfl, rfl, rfl⟩ : Ma = zeroM ∧ sa = 0 ∧ ca = cc := by
                have := HRA.out
                rw [insP_no hno] at this
                simp only [Prod.mk.injEq] at this
                exact ⟨this.1.symm, this.2.1.symm, this.2.2.symm⟩
              obtain ⟨rfl, rfl, rfl⟩ : Mc = zeroM ∧ sc = 0 ∧ cb = ca := by
                have := HRB.out
                rw [remP_no hno] at this
                simp only [Prod.mk.injEq] at this
                exact ⟨this.1.symm, this.2.1.symm, this.2.2.symm⟩
              clear hno
              go_wp2
              go_meet
              exact ⟨rfl, rfl, rfl, rfl, hid ⟨none, 0, none, 0, none, 0, none, 0, ⟨HMB_100.out, HM_102.out, HB_103.out⟩, HNA_105.out, HNC_107.out, KA_106.out, KR_108.out, KCa_109.out, KDa_110.out, memL_zero _, memL_zero _⟩⟩
            · skip
              have HRO := hid hro
              obtain ⟨vx, vy, rfl, hlx⟩ := Leads.of_own hro
              have hxl := hlx.len
              have HOK := hid hok
              have HNN := hid hnn
              have HRIA : Hid (rinsP Mk head xs (p0, p1, p2, p3) = (Ma, sa, ca)) := hid (by rw [← HRA.out]; exact (ins_same hok hnn).symm)
              have HRIB : Hid (rremP Mk head xs p3 p1 = (Mc, sc, cb)) := hid (by rw [← HRB.out]; exact (rem_same hok hnn).symm)
              clear hro hok hnn hlx
              go_upto_region 19 with (fail)
              obtain ⟨D24_571, hD⟩ : ∃ DX, (u22_526).drew = DX := ⟨_, rfl⟩
              have hbD : Below u22_526.heap.size u22_526 D24_571 := by rw [← hD]; exact (Below.refl _ _).drew
              have HD := hid hD
              clear hD
              have HMB_111 := hid (keep_laid HMB_100.out hbD)
              have KB_112 := hid (keep_laid KB_101.out hbD)
              have HM_113 := hid (HM_102.out.grow hbD)
              have HB_114 := hid (HB_103.out.trans (hbD.mono HB_103.out.size))
              have HNA_115 := hid (HNA_105.out.grow hbD)
              have KA_116 := hid (keep_laid KA_106.out hbD)
              have HNC_117 := hid (HNC_107.out.grow hbD)
              have KR_118 := hid (keep_laid KR_108.out hbD)
              have KCa_119 := hid (keep_laid KCa_109.out hbD)
              have KDa_120 := hid (keep_laid KDa_110.out hbD)
              have HRO_121 := hid (own_grow HRO.out hbD)
              clear HMB_100 KB_101 HM_102 HB_103 HNA_105 KA_106 HNC_107 KR_108 KCa_109 KDa_110 HRO hbD
              have HOW : Hid (Calls Try.prog 9 #[.agg #[.slice wak Mk.W.length wck, .slice lak Mk.L.length lck, .bool Mk.F]] D24_571 (GivesM Mk D24_571)) := hid (by have := lawown_any Mk wak lak wck lck D24_571 HM_113.out.memL; rw [take64_id HQ.out.2.1.1 HQ.out.2.1.2] at this; exact this)
              haveI : Nonempty (RMB Mb B #[.slice wak Mk.W.length wck, .slice lak Mk.L.length lck, .bool Mk.F] #[.int .u64 ((p0 : Nat) : Int), .int .u64 ((p1 : Nat) : Int), .int .u64 ((p2 : Nat) : Int), .int .u64 ((p3 : Nat) : Int)]) := ⟨⟨D24_571, HMB_111.out, KB_112.out⟩⟩
              have r0 : ∀ z : RMB Mb B #[.slice wak Mk.W.length wck, .slice lak Mk.L.length lck, .bool Mk.F] #[.int .u64 ((p0 : Nat) : Int), .int .u64 ((p1 : Nat) : Int), .int .u64 ((p2 : Nat) : Int), .int .u64 ((p3 : Nat) : Int)], z.w.cell? ⟨Mb, 0, none⟩ = some (.slice wak Mk.W.length wck) := fun z => cell_laid z.bx rfl
              have r1 : ∀ z : RMB Mb B #[.slice wak Mk.W.length wck, .slice lak Mk.L.length lck, .bool Mk.F] #[.int .u64 ((p0 : Nat) : Int), .int .u64 ((p1 : Nat) : Int), .int .u64 ((p2 : Nat) : Int), .int .u64 ((p3 : Nat) : Int)], z.w.cell? ⟨Mb, 1, none⟩ = some (.slice lak Mk.L.length lck) := fun z => cell_laid z.bx rfl
              have r2 : ∀ z : RMB Mb B #[.slice wak Mk.W.length wck, .slice lak Mk.L.length lck, .bool Mk.F] #[.int .u64 ((p0 : Nat) : Int), .int .u64 ((p1 : Nat) : Int), .int .u64 ((p2 : Nat) : Int), .int .u64 ((p3 : Nat) : Int)], z.w.cell? ⟨Mb, 2, none⟩ = some (.bool Mk.F) := fun z => cell_laid z.bx rfl
              have q0 : ∀ z : RMB Mb B #[.slice wak Mk.W.length wck, .slice lak Mk.L.length lck, .bool Mk.F] #[.int .u64 ((p0 : Nat) : Int), .int .u64 ((p1 : Nat) : Int), .int .u64 ((p2 : Nat) : Int), .int .u64 ((p3 : Nat) : Int)], z.w.cell? ⟨B, 0, none⟩ = some (.int .u64 ((p0 : Nat) : Int)) := fun z => cell_laid z.by_ rfl
              have q1 : ∀ z : RMB Mb B #[.slice wak Mk.W.length wck, .slice lak Mk.L.length lck, .bool Mk.F] #[.int .u64 ((p0 : Nat) : Int), .int .u64 ((p1 : Nat) : Int), .int .u64 ((p2 : Nat) : Int), .int .u64 ((p3 : Nat) : Int)], z.w.cell? ⟨B, 1, none⟩ = some (.int .u64 ((p1 : Nat) : Int)) := fun z => cell_laid z.by_ rfl
              have q2 : ∀ z : RMB Mb B #[.slice wak Mk.W.length wck, .slice lak Mk.L.length lck, .bool Mk.F] #[.int .u64 ((p0 : Nat) : Int), .int .u64 ((p1 : Nat) : Int), .int .u64 ((p2 : Nat) : Int), .int .u64 ((p3 : Nat) : Int)], z.w.cell? ⟨B, 2, none⟩ = some (.int .u64 ((p2 : Nat) : Int)) := fun z => cell_laid z.by_ rfl
              have q3 : ∀ z : RMB Mb B #[.slice wak Mk.W.length wck, .slice lak Mk.L.length lck, .bool Mk.F] #[.int .u64 ((p0 : Nat) : Int), .int .u64 ((p1 : Nat) : Int), .int .u64 ((p2 : Nat) : Int), .int .u64 ((p3 : Nat) : Int)], z.w.cell? ⟨B, 3, none⟩ = some (.int .u64 ((p3 : Nat) : Int)) := fun z => cell_laid z.by_ rfl
              refine wp_region_mix2 (fun W => ∃ z : RMB Mb B #[.slice wak Mk.W.length wck, .slice lak Mk.L.length lck, .bool Mk.F] #[.int .u64 ((p0 : Nat) : Int), .int .u64 ((p1 : Nat) : Int), .int .u64 ((p2 : Nat) : Int), .int .u64 ((p3 : Nat) : Int)], W = z.w) 13 (.q 0 (.q 2 (.q 3 (.q 4 (.h 1 (.h 5 (.q 6 (.q 7 (.q 8 (.q 9 (.h 10 (.q 11 (.q 12 .done))))))))))))) (by kernel_rfl) (by kernel_rfl) (by rw [HD.out]; exact ⟨⟨D24_571, HMB_111.out, KB_112.out⟩, rfl⟩) ?_
              rw [HD.out]
              repeat (refine wpMix2_q rfl rfl ?_; go_big_quiet_step (fail); refine wpQuiet_nil ?_)
              refine wpMix2_h rfl fun R' hR' hO => ?_
              go_wp2_with fail
              refine HOW.out.mono ?_
              rintro e v119 ⟨wao, wco, lao, lco, rfl, hoo, hbn⟩
              have HRX := hid (rInsert_any Mk wao lao vx wco lco xs.length vy head xs (p0, p1, p2, p3) v119 hoo.memL HOK.out HQ.out.1 HNN.out (Leads.of_own1 (own_grow HRO_121.out hbn)) rfl hh HPO.out)
              rw [HRIA.out] at HRX
              unfold GivesKI memV ndV at HRX
              dsimp only at HRX
              have HMB_122 := hid (keep_laid HMB_111.out hbn)
              have KB_123 := hid (keep_laid KB_112.out hbn)
              have HM_124 := hid (HM_113.out.grow hbn)
              have HB_125 := hid (HB_114.out.trans (hbn.mono HB_114.out.size))
              have HNA_126 := hid (HNA_115.out.grow hbn)
              have KA_127 := hid (keep_laid KA_116.out hbn)
              have HNC_128 := hid (HNC_117.out.grow hbn)
              have KR_129 := hid (keep_laid KR_118.out hbn)
              have KCa_130 := hid (keep_laid KCa_119.out hbn)
              have KDa_131 := hid (keep_laid KDa_120.out hbn)
              have HRO_132 := hid (own_grow HRO_121.out hbn)
              clear HMB_111 KB_112 HM_113 HB_114 HNA_115 KA_116 HNC_117 KR_118 KCa_119 KDa_120 HRO_121 hbn hoo
              unfold memV
              go_wp2
              refine hR' _ _ ⟨⟨v119, HMB_122.out, KB_123.out⟩, rfl⟩ ?_
              clear hR' hO R'
              refine wpMix2_h rfl fun R' hR' hO => ?_
              go_wp2_with fail
              refine HRX.out.mono ?_
              rintro e v219 ⟨waw, wcw, law, lcw, rfl, hmw, hbn, -⟩
              have hmwl := hmw.w.len
              have hmll := hmw.l.len
              have HMB_133 := hid (keep_laid HMB_122.out hbn)
              have KB_134 := hid (keep_laid KB_123.out hbn)
              have HM_135 := hid (HM_124.out.grow hbn)
              have HB_136 := hid (HB_125.out.trans (hbn.mono HB_125.out.size))
              have HNA_137 := hid (HNA_126.out.grow hbn)
              have KA_138 := hid (keep_laid KA_127.out hbn)
              have HNC_139 := hid (HNC_128.out.grow hbn)
              have KR_140 := hid (keep_laid KR_129.out hbn)
              have KCa_141 := hid (keep_laid KCa_130.out hbn)
              have KDa_142 := hid (keep_laid KDa_131.out hbn)
              have HRO_143 := hid (own_grow HRO_132.out hbn)
              clear HMB_122 KB_123 HM_124 HB_125 HNA_126 KA_127 HNC_128 KR_129 KCa_130 KDa_131 HRO_132 hbn HRX HOW
              have HWA := hid hmw
              clear hmw
              go_wp2
              refine hR' _ _ ⟨⟨v219, HMB_133.out, KB_134.out⟩, rfl⟩ ?_
              clear hR' hO R'
              repeat (refine wpMix2_q rfl rfl ?_; go_big_quiet_step (fail); refine wpQuiet_nil ?_)
              obtain ⟨u25_648, hu25_648, a1, a2, a3, a4⟩ := put_mem KCa_141.out (.slice waw Ma.W.length wcw) (.slice law Ma.L.length lcw) (.bool Ma.F)
              obtain ⟨z0, zf0, z1, zf1, z2, zf2⟩ := fcl3 KCa_141.out
              have E26_648 := hid hu25_648
              have HMB_144 := hid (a2 Mb _ (by omega) HMB_133.out)
              have KB_145 := hid (a2 B _ (by omega) KB_134.out)
              have HM_146 := hid (a4 _ _ _ _ _ _ HM_135.out)
              have HB_147 := hid (a3 _ _ (by omega) HB_136.out)
              have HNA_148 := hid (a4 _ _ _ _ _ _ HNA_137.out)
              have KA_149 := hid (a2 A _ (by omega) KA_138.out)
              have HNC_150 := hid (a4 _ _ _ _ _ _ HNC_139.out)
              have KR_151 := hid (a2 R _ (by omega) KR_140.out)
              have KCa_152 := hid (a1)
              have KDa_153 := hid (a2 Da _ (by omega) KDa_142.out)
              have HRO_154 := hid (own_keep HRO_143.out fun k o hk ho => a2 k o (fun e => own_ne HRO_143.out KCa_141.out (by decide) (by rw [← e]; exact hk)) ho)
              have HWA_155 := hid (memL_put KCa_141.out HWA.out HFA.out.2.2.1 E26_648.out)
              clear HMB_133 KB_134 HM_135 HB_136 HNA_137 KA_138 HNC_139 KR_140 KCa_141 KDa_142 HRO_143 HWA hu25_648 a1 a2 a3 a4
              refine wpMix2_h rfl fun R' hR' hO => ?_
              go_wp2
              rw [← E26_648.out]
              refine hR' _ _ ⟨⟨u25_648, HMB_144.out, KB_145.out⟩, rfl⟩ ?_
              clear hR' hO R' z0 z1 z2 zf0 zf1 zf2
              repeat (refine wpMix2_q rfl rfl ?_; go_big_quiet_step (fail); refine wpQuiet_nil ?_)
              refine wpMix2_done ?_
              simp only [List.drop_succ_cons, List.drop_nil]
              clear r0 r1 r2 q0 q1 q2 q3 HD
              go_upto_region 20 with (fail)
              obtain ⟨D27_673, hD⟩ : ∃ DX, (u25_648).drew = DX := ⟨_, rfl⟩
              have hbD : Below u25_648.heap.size u25_648 D27_673 := by rw [← hD]; exact (Below.refl _ _).drew
              have HD := hid hD
              clear hD
              have HMB_156 := hid (keep_laid HMB_144.out hbD)
              have KB_157 := hid (keep_laid KB_145.out hbD)
              have HM_158 := hid (HM_146.out.grow hbD)
              have HB_159 := hid (HB_147.out.trans (hbD.mono HB_147.out.size))
              have HNA_160 := hid (HNA_148.out.grow hbD)
              have KA_161 := hid (keep_laid KA_149.out hbD)
              have HNC_162 := hid (HNC_150.out.grow hbD)
              have KR_163 := hid (keep_laid KR_151.out hbD)
              have KCa_164 := hid (keep_laid KCa_152.out hbD)
              have KDa_165 := hid (keep_laid KDa_153.out hbD)
              have HRO_166 := hid (own_grow HRO_154.out hbD)
              have HWA_167 := hid (HWA_155.out.grow hbD)
              clear HMB_144 KB_145 HM_146 HB_147 HNA_148 KA_149 HNC_150 KR_151 KCa_152 KDa_153 HRO_154 HWA_155 hbD
              have HOW : Hid (Calls Try.prog 9 #[.agg #[.slice wak Mk.W.length wck, .slice lak Mk.L.length lck, .bool Mk.F]] D27_673 (GivesM Mk D27_673)) := hid (by have := lawown_any Mk wak lak wck lck D27_673 HM_158.out.memL; rw [take64_id HQ.out.2.1.1 HQ.out.2.1.2] at this; exact this)
              haveI : Nonempty (RMB Mb B #[.slice wak Mk.W.length wck, .slice lak Mk.L.length lck, .bool Mk.F] #[.int .u64 ((p0 : Nat) : Int), .int .u64 ((p1 : Nat) : Int), .int .u64 ((p2 : Nat) : Int), .int .u64 ((p3 : Nat) : Int)]) := ⟨⟨D27_673, HMB_156.out, KB_157.out⟩⟩
              have r0 : ∀ z : RMB Mb B #[.slice wak Mk.W.length wck, .slice lak Mk.L.length lck, .bool Mk.F] #[.int .u64 ((p0 : Nat) : Int), .int .u64 ((p1 : Nat) : Int), .int .u64 ((p2 : Nat) : Int), .int .u64 ((p3 : Nat) : Int)], z.w.cell? ⟨Mb, 0, none⟩ = some (.slice wak Mk.W.length wck) := fun z => cell_laid z.bx rfl
              have r1 : ∀ z : RMB Mb B #[.slice wak Mk.W.length wck, .slice lak Mk.L.length lck, .bool Mk.F] #[.int .u64 ((p0 : Nat) : Int), .int .u64 ((p1 : Nat) : Int), .int .u64 ((p2 : Nat) : Int), .int .u64 ((p3 : Nat) : Int)], z.w.cell? ⟨Mb, 1, none⟩ = some (.slice lak Mk.L.length lck) := fun z => cell_laid z.bx rfl
              have r2 : ∀ z : RMB Mb B #[.slice wak Mk.W.length wck, .slice lak Mk.L.length lck, .bool Mk.F] #[.int .u64 ((p0 : Nat) : Int), .int .u64 ((p1 : Nat) : Int), .int .u64 ((p2 : Nat) : Int), .int .u64 ((p3 : Nat) : Int)], z.w.cell? ⟨Mb, 2, none⟩ = some (.bool Mk.F) := fun z => cell_laid z.bx rfl
              have q0 : ∀ z : RMB Mb B #[.slice wak Mk.W.length wck, .slice lak Mk.L.length lck, .bool Mk.F] #[.int .u64 ((p0 : Nat) : Int), .int .u64 ((p1 : Nat) : Int), .int .u64 ((p2 : Nat) : Int), .int .u64 ((p3 : Nat) : Int)], z.w.cell? ⟨B, 0, none⟩ = some (.int .u64 ((p0 : Nat) : Int)) := fun z => cell_laid z.by_ rfl
              have q1 : ∀ z : RMB Mb B #[.slice wak Mk.W.length wck, .slice lak Mk.L.length lck, .bool Mk.F] #[.int .u64 ((p0 : Nat) : Int), .int .u64 ((p1 : Nat) : Int), .int .u64 ((p2 : Nat) : Int), .int .u64 ((p3 : Nat) : Int)], z.w.cell? ⟨B, 1, none⟩ = some (.int .u64 ((p1 : Nat) : Int)) := fun z => cell_laid z.by_ rfl
              have q2 : ∀ z : RMB Mb B #[.slice wak Mk.W.length wck, .slice lak Mk.L.length lck, .bool Mk.F] #[.int .u64 ((p0 : Nat) : Int), .int .u64 ((p1 : Nat) : Int), .int .u64 ((p2 : Nat) : Int), .int .u64 ((p3 : Nat) : Int)], z.w.cell? ⟨B, 2, none⟩ = some (.int .u64 ((p2 : Nat) : Int)) := fun z => cell_laid z.by_ rfl
              have q3 : ∀ z : RMB Mb B #[.slice wak Mk.W.length wck, .slice lak Mk.L.length lck, .bool Mk.F] #[.int .u64 ((p0 : Nat) : Int), .int .u64 ((p1 : Nat) : Int), .int .u64 ((p2 : Nat) : Int), .int .u64 ((p3 : Nat) : Int)], z.w.cell? ⟨B, 3, none⟩ = some (.int .u64 ((p3 : Nat) : Int)) := fun z => cell_laid z.by_ rfl
              refine wp_region_mix2 (fun W => ∃ z : RMB Mb B #[.slice wak Mk.W.length wck, .slice lak Mk.L.length lck, .bool Mk.F] #[.int .u64 ((p0 : Nat) : Int), .int .u64 ((p1 : Nat) : Int), .int .u64 ((p2 : Nat) : Int), .int .u64 ((p3 : Nat) : Int)], W = z.w) 15 (.q 0 (.q 2 (.q 3 (.q 4 (.q 5 (.q 6 (.h 1 (.h 7 (.q 8 (.q 9 (.q 10 (.q 11 (.h 12 (.q 13 (.q 14 .done))))))))))))))) (by kernel_rfl) (by kernel_rfl) (by rw [HD.out]; exact ⟨⟨D27_673, HMB_156.out, KB_157.out⟩, rfl⟩) ?_
              rw [HD.out]
              repeat (refine wpMix2_q rfl rfl ?_; go_big_quiet_step (fail); refine wpQuiet_nil ?_)
              refine wpMix2_h rfl fun R' hR' hO => ?_
              go_wp2_with fail
              refine HOW.out.mono ?_
              rintro e v120 ⟨wao, wco, lao, lco, rfl, hoo, hbn⟩
              have HRX := hid (rRemove_any Mk wao lao wco lco head p3 p1 xs v120 hoo.memL HOK.out HQ.out.1 HNN.out hh HPO.out.2.2.2 HPO.out.2.1)
              rw [HRIB.out] at HRX
              unfold GivesKU memV at HRX
              dsimp only at HRX
              have HMB_168 := hid (keep_laid HMB_156.out hbn)
              have KB_169 := hid (keep_laid KB_157.out hbn)
              have HM_170 := hid (HM_158.out.grow hbn)
              have HB_171 := hid (HB_159.out.trans (hbn.mono HB_159.out.size))
              have HNA_172 := hid (HNA_160.out.grow hbn)
              have KA_173 := hid (keep_laid KA_161.out hbn)
              have HNC_174 := hid (HNC_162.out.grow hbn)
              have KR_175 := hid (keep_laid KR_163.out hbn)
              have KCa_176 := hid (keep_laid KCa_164.out hbn)
              have KDa_177 := hid (keep_laid KDa_165.out hbn)
              have HRO_178 := hid (own_grow HRO_166.out hbn)
              have HWA_179 := hid (HWA_167.out.grow hbn)
              clear HMB_156 KB_157 HM_158 HB_159 HNA_160 KA_161 HNC_162 KR_163 KCa_164 KDa_165 HRO_166 HWA_167 hbn hoo
              unfold memV
              go_wp2
              refine hR' _ _ ⟨⟨v120, HMB_168.out, KB_169.out⟩, rfl⟩ ?_
              clear hR' hO R'
              refine wpMix2_h rfl fun R' hR' hO => ?_
              go_wp2_with fail
              refine HRX.out.mono ?_
              rintro e v220 ⟨wax, wcx, lax, lcx, rfl, hmw, hbn, -⟩
              have hmwl := hmw.w.len
              have hmll := hmw.l.len
              have HMB_180 := hid (keep_laid HMB_168.out hbn)
              have KB_181 := hid (keep_laid KB_169.out hbn)
              have HM_182 := hid (HM_170.out.grow hbn)
              have HB_183 := hid (HB_171.out.trans (hbn.mono HB_171.out.size))
              have HNA_184 := hid (HNA_172.out.grow hbn)
              have KA_185 := hid (keep_laid KA_173.out hbn)
              have HNC_186 := hid (HNC_174.out.grow hbn)
              have KR_187 := hid (keep_laid KR_175.out hbn)
              have KCa_188 := hid (keep_laid KCa_176.out hbn)
              have KDa_189 := hid (keep_laid KDa_177.out hbn)
              have HRO_190 := hid (own_grow HRO_178.out hbn)
              have HWA_191 := hid (HWA_179.out.grow hbn)
              clear HMB_168 KB_169 HM_170 HB_171 HNA_172 KA_173 HNC_174 KR_175 KCa_176 KDa_177 HRO_178 HWA_179 hbn HRX HOW
              have HWC := hid hmw
              clear hmw
              go_wp2
              refine hR' _ _ ⟨⟨v220, HMB_180.out, KB_181.out⟩, rfl⟩ ?_
              clear hR' hO R'
              repeat (refine wpMix2_q rfl rfl ?_; go_big_quiet_step (fail); refine wpQuiet_nil ?_)
              obtain ⟨u28_753, hu28_753, a1, a2, a3, a4⟩ := put_mem KDa_189.out (.slice wax Mc.W.length wcx) (.slice lax Mc.L.length lcx) (.bool Mc.F)
              obtain ⟨z0, zf0, z1, zf1, z2, zf2⟩ := fcl3 KDa_189.out
              have E29_753 := hid hu28_753
              have HMB_192 := hid (a2 Mb _ (by omega) HMB_180.out)
              have KB_193 := hid (a2 B _ (by omega) KB_181.out)
              have HM_194 := hid (a4 _ _ _ _ _ _ HM_182.out)
              have HB_195 := hid (a3 _ _ (by omega) HB_183.out)
              have HNA_196 := hid (a4 _ _ _ _ _ _ HNA_184.out)
              have KA_197 := hid (a2 A _ (by omega) KA_185.out)
              have HNC_198 := hid (a4 _ _ _ _ _ _ HNC_186.out)
              have KR_199 := hid (a2 R _ (by omega) KR_187.out)
              have KCa_200 := hid (a2 Ca _ (by omega) KCa_188.out)
              have KDa_201 := hid (a1)
              have HRO_202 := hid (own_keep HRO_190.out fun k o hk ho => a2 k o (fun e => own_ne HRO_190.out KDa_189.out (by decide) (by rw [← e]; exact hk)) ho)
              have HWA_203 := hid (memL_put KDa_189.out HWA_191.out HFA.out.2.2.1 E29_753.out)
              have HWC_204 := hid (memL_put KDa_189.out HWC.out HFB.out.2.2.1 E29_753.out)
              clear HMB_180 KB_181 HM_182 HB_183 HNA_184 KA_185 HNC_186 KR_187 KCa_188 KDa_189 HRO_190 HWA_191 HWC hu28_753 a1 a2 a3 a4
              refine wpMix2_h rfl fun R' hR' hO => ?_
              go_wp2
              rw [← E29_753.out]
              refine hR' _ _ ⟨⟨u28_753, HMB_192.out, KB_193.out⟩, rfl⟩ ?_
              clear hR' hO R' z0 z1 z2 zf0 zf1 zf2
              repeat (refine wpMix2_q rfl rfl ?_; go_big_quiet_step (fail); refine wpQuiet_nil ?_)
              refine wpMix2_done ?_
              simp only [List.drop_succ_cons, List.drop_nil]
              clear r0 r1 r2 q0 q1 q2 q3 HD
              go_wp2
              go_meet
              exact ⟨rfl, rfl, rfl, rfl, hid ⟨waw, wcw, law, lcw, wax, wcx, lax, lcx, ⟨HMB_192.out, HM_194.out, HB_195.out⟩, HNA_196.out, HNC_198.out, KA_197.out, KR_199.out, KCa_200.out, KDa_201.out, HWA_203.out, HWC_204.out⟩⟩
          case rest =>
            clear HMB_100 KB_101 HM_102 HB_103 HP_104 HNA_105 KA_106 HNC_107 KR_108 KCa_109 KDa_110
            obtain ⟨rfl, rfl, rfl, rfl, hcc⟩ := hcut
            obtain ⟨w8, hw8⟩ : ∃ W, W = wc := ⟨_, rfl⟩
            subst hw8
            obtain ⟨waw, wcw, law, lcw, wax, wcx, lax, lcx, hS8, hA8, hC8, kA8, kR8, kC8, kD8, mA8, mC8⟩ := hcc.out
            have hsmA := RefSame_any Ma Ma wan lan waw law wcn lcn wcw lcw w8 hA8.memL mA8
            rw [sameM_self] at hsmA
            have HSA := hid hsmA
            unfold memV at HSA
            have HSC : Hid (∀ W, Below w8.heap.size w8 W → _) := hid (fun W hb => RefSame_any Mc Mc war lar wax lax wcr lcr wcx lcx W (hC8.memL.grow hb) (mC8.grow hb))
            rw [sameM_self] at HSC
            unfold memV at HSC
            have HMB := hid hS8.bm
            have HM := hid hS8.mem
            have HB := hid hS8.below
            have HNA := hid hA8
            have HNC := hid hC8
            have KA := hid kA8
            have KR := hid kR8
            have KCa := hid kC8
            have KDa := hid kD8
            have hw1 := mA8.w.len
            have hw2 := mA8.l.len
            have hw3 := mC8.w.len
            have hw4 := mC8.l.len
            have hw5 := hA8.memL.w.len
            have hw6 := hA8.memL.l.len
            have hw7 := hC8.memL.w.len
            have hw9 := hC8.memL.l.len
            have tqa : (((ca : Nat) : Int) != ((ca : Nat) : Int)) = false := by simp
            have tqb : (((cb : Nat) : Int) != ((cb : Nat) : Int)) = false := by simp
            have tsa : (((sa : Nat) : Int) != ((sa : Nat) : Int)) = false := by simp
            have tsb : (((sc : Nat) : Int) != ((sc : Nat) : Int)) = false := by simp
            obtain ⟨a0, a1, a2⟩ := cells3 kA8
            obtain ⟨c0, c1, c2⟩ := cells3 kC8
            clear hS8 hA8 hC8 kA8 kR8 kC8 kD8 mA8 mC8 hsmA hcc
            go_wp2_with fail
            refine HSA.out.mono ?_
            rintro e w9 ⟨rfl, hbn⟩
            have HB89 := hid hbn
            have HMB_111 := hid (keep_laid HMB.out hbn)
            have HM_112 := hid (HM.out.grow hbn)
            have HB_113 := hid (HB.out.trans (hbn.mono HB.out.size))
            have HNA_114 := hid (HNA.out.grow hbn)
            have HNC_115 := hid (HNC.out.grow hbn)
            have KA_116 := hid (keep_laid KA.out hbn)
            have KR_117 := hid (keep_laid KR.out hbn)
            have KCa_118 := hid (keep_laid KCa.out hbn)
            have KDa_119 := hid (keep_laid KDa.out hbn)
            clear HMB HM HB HNA HNC KA KR KCa KDa hbn a0 a1 a2 c0 c1 c2 HSA
            obtain ⟨a0, a1, a2⟩ := cells3 KR_117.out
            obtain ⟨c0, c1, c2⟩ := cells3 KDa_119.out
            go_wp2_with fail
            refine (HSC.out w9 HB89.out).mono ?_
            rintro e w10 ⟨rfl, hbn⟩
            have HMB_120 := hid (keep_laid HMB_111.out hbn)
            have HM_121 := hid (HM_112.out.grow hbn)
            have HB_122 := hid (HB_113.out.trans (hbn.mono HB_113.out.size))
            have HNA_123 := hid (HNA_114.out.grow hbn)
            have HNC_124 := hid (HNC_115.out.grow hbn)
            have KA_125 := hid (keep_laid KA_116.out hbn)
            have KR_126 := hid (keep_laid KR_117.out hbn)
            have KCa_127 := hid (keep_laid KCa_118.out hbn)
            have KDa_128 := hid (keep_laid KDa_119.out hbn)
            clear HMB_111 HM_112 HB_113 HNA_114 HNC_115 KA_116 KR_117 KCa_118 KDa_119 hbn a0 a1 a2 c0 c1 c2 HSC tqa tqb tsa tsb HB89
            have hVMb := HVM.out
            by_cases hca : ca = 0
            · have tca : (((ca : Nat) : Int) == 0) = true := by simp; omega
              obtain ⟨a0, a1, a2⟩ := cells3 KA_125.out
              obtain ⟨u24_852, hu24_852, a1, a2, a3, a4⟩ := put_mem HMB_120.out (.slice wan Ma.W.length wcn) (.slice lan Ma.L.length lcn) (.bool Ma.F)
              obtain ⟨z0, zf0, z1, zf1, z2, zf2⟩ := fcl3 HMB_120.out
              have E25_852 := hid hu24_852
              have HMB_129 := hid (a1)
              have HM_130 := hid (a4 _ _ _ _ _ _ HM_121.out)
              have HB_131 := hid (a3 _ _ (by omega) HB_122.out)
              have HNA_132 := hid (a4 _ _ _ _ _ _ HNA_123.out)
              have HNC_133 := hid (a4 _ _ _ _ _ _ HNC_124.out)
              have KA_134 := hid (a2 A _ (by omega) KA_125.out)
              have KR_135 := hid (a2 R _ (by omega) KR_126.out)
              have KCa_136 := hid (a2 Ca _ (by omega) KCa_127.out)
              have KDa_137 := hid (a2 Da _ (by omega) KDa_128.out)
              clear HMB_120 HM_121 HB_122 HNA_123 HNC_124 KA_125 KR_126 KCa_127 KDa_128 hu24_852 a1 a2 a3 a4
              have HOKN : Hid (okM Ma = OKB) := hid (by
                have h1 := HFA.out.2.2.2 hca
                rw [h1]
                cases hb : OKB with
                | true => rfl
                | false =>
                  have h2 := HQ.out.2.2
                  rw [hb] at h2
                  have h3 := HRA.out
                  rw [insP_no (.inl ⟨h2, rfl⟩)] at h3
                  simp only [Prod.mk.injEq] at h3
                  omega)
              clear hca
              go_wp2
              rw [← E25_852.out]
              go_roundg (gk - 1)
              case measure => have := HK.out; omega
              case rel => exact ⟨k + 1, wan, wcn, lan, lcn, Ma, by have := HK.out; omega, by go_num, hid ⟨HMB_129.out, HNA_132.out, HB_131.out, HFA.out.1, HFA.out.2.1, HOKN.out⟩⟩
            · have tca : (((ca : Nat) : Int) == 0) = false := by simp; omega
              clear hca
              by_cases hcb : cb = 0
              · have tcb : (((cb : Nat) : Int) == 0) = true := by simp; omega
                obtain ⟨a0, a1, a2⟩ := cells3 KR_126.out
                obtain ⟨u24_888, hu24_888, a1, a2, a3, a4⟩ := put_mem HMB_120.out (.slice war Mc.W.length wcr) (.slice lar Mc.L.length lcr) (.bool Mc.F)
                obtain ⟨z0, zf0, z1, zf1, z2, zf2⟩ := fcl3 HMB_120.out
                have E25_888 := hid hu24_888
                have HMB_129 := hid (a1)
                have HM_130 := hid (a4 _ _ _ _ _ _ HM_121.out)
                have HB_131 := hid (a3 _ _ (by omega) HB_122.out)
                have HNA_132 := hid (a4 _ _ _ _ _ _ HNA_123.out)
                have HNC_133 := hid (a4 _ _ _ _ _ _ HNC_124.out)
                have KA_134 := hid (a2 A _ (by omega) KA_125.out)
                have KR_135 := hid (a2 R _ (by omega) KR_126.out)
                have KCa_136 := hid (a2 Ca _ (by omega) KCa_127.out)
                have KDa_137 := hid (a2 Da _ (by omega) KDa_128.out)
                clear HMB_120 HM_121 HB_122 HNA_123 HNC_124 KA_125 KR_126 KCa_127 KDa_128 hu24_888 a1 a2 a3 a4
                have HOKN : Hid (okM Mc = OKB) := hid (by
                  have h1 := HFB.out.2.2.2 hcb
                  rw [h1]
                  cases hb : OKB with
                  | true => rfl
                  | false =>
                    have h2 := HQ.out.2.2
                    rw [hb] at h2
                    have h3 := HRB.out
                    rw [remP_no (.inl ⟨h2, rfl⟩)] at h3
                    simp only [Prod.mk.injEq] at h3
                    omega)
                clear hcb
                go_wp2
                rw [← E25_888.out]
                go_roundg (gk - 1)
                case measure => have := HK.out; omega
                case rel => exact ⟨k + 1, war, wcr, lar, lcr, Mc, by have := HK.out; omega, by go_num, hid ⟨HMB_129.out, HNC_133.out, HB_131.out, HFB.out.1, HFB.out.2.1, HOKN.out⟩⟩
              · have tcb : (((cb : Nat) : Int) == 0) = false := by simp; omega
                clear hcb
                go_wp2
                go_roundg (gk - 1)
                case measure => have := HK.out; omega
                case rel => exact ⟨k + 1, wak, wck, lak, lck, Mk, by have := HK.out; omega, by go_num, hid ⟨HMB_120.out, HM_121.out, HB_122.out, HQ.out.1, HQ.out.2.1, HQ.out.2.2⟩⟩
    · skip
      go_wp2
      go_ret
      exact ⟨rfl, hS.out.below⟩
end Go.Proofs.Ytdkkjcflcegeoaa
