/- MountOnce: the walk of the law (printed by gen_once.py). -/
import Derived.Test.YtbfhppafffhlkaaMountClearsWalk
import Derived.Test.YtbfhppafffhlkaaMapsI
import Derived.Test.YtbfhppafffhlkaaOpenT
namespace Go.Proofs.Ytbfhppafffhlkaa
open Go.RowKit
open Go.Proofs
set_option linter.unusedVariables false

theorem wp_putG {w : World} {ops : Array Oper} {rest : List Oper} {o : Oper} {a : Act} {Q : Exit → Act → World → Prop} (hg : o.guard = none) (m x v : Operand) (t : TypeId) (hop : o.op = Op.mapUpdate t m x v) (ht : Try.prog.underlying t = some (.map 23 3))
    (b k u : Nat) (l : List (Nat × Nat)) (hm : a.eval m = .map (some b)) (hown : IdsI w b l) (hl : l.length ≤ 1000) (hx : a.eval x = .int .u64 ((k : Nat) : Int)) (hv : a.eval v = .int .i64 ((u : Nat) : Int)) (hk : k < 18446744073709551616) (hu : u < 1000)
    (h : ∀ w', IdsI w' b (l ++ [(k, u)]) → w.grownBy w' (some b) → wpList Try.prog ops Q rest (a.put o.dst undef) w') : wpList Try.prog ops Q (o :: rest) a w := by
  refine wpList_mapUpdate_own w hg m x v t hop 23 3 keyedU ht (plainElem Try.prog 3) b l.length (mapDI l) hm hown (by unfold maxLen; omega) _ _ _ hx hv (keyU hk) _ [] (plainElem_int Try.underlying3 (wfI hu)) ?_
  intro w' h1 h2
  refine h w' ?_ h2
  unfold IdsI
  rw [mapD_snocI, List.length_append]
  exact h1
theorem Leads.grown {w w' : World} {a : Option Addr} {n cap M : Nat} {cs : List Value} (h : Leads w a n cap cs) (hg : w.grownBy w' (some M)) (hne : ∀ b off, a = some ⟨b, off, none⟩ → b ≠ M) : Leads w' a n cap cs := by
  obtain ⟨h1, h2, h | ⟨b, off, h3, h4, h5⟩⟩ := h
  · exact ⟨h1, h2, .inl h⟩
  · refine ⟨h1, h2, .inr ⟨b, off, h3, Nat.lt_of_lt_of_le h4 hg.size, fun i v hv => ?_⟩⟩
    rw [← h5 i v hv]
    exact World.cell?_of_block (hg.block b h4 (fun e => hne b off h3 (Option.some.inj e)))
theorem Leads.turn {w : World} {a : Option Addr} {n cap k : Nat} {ts : List (Bool × Nat)} {p : Bool × Nat} (h : Leads w a n cap (turncells ts)) (hk : k < n) (hp : ts[k]? = some p) : ∃ b off, a = some ⟨b, off, none⟩ ∧ (∀ x, Below w.heap.size w x → x.cell? ⟨b, off + k * 2, none⟩ = some (.bool p.1) ∧ x.cell? ⟨b, off + k * 2 + 1, none⟩ = some (.int .u64 ((p.2 : Nat) : Int))) := by
  obtain ⟨_, _, ⟨h, _⟩ | ⟨b, off, rfl, h3, h4⟩⟩ := h
  · omega
  · exact ⟨b, off, rfl, fun x hx => ⟨(hx.cell (p := ⟨b, off + k * 2, none⟩) h3).trans (h4 _ _ (flat_at _ 2 (fun _ => rfl) ts k 0 _ hp (by omega))), (hx.cell (p := ⟨b, off + k * 2 + 1, none⟩) h3).trans (h4 (k * 2 + 1) _ (flat_at _ 2 (fun _ => rfl) ts k 1 _ hp (by omega)))⟩⟩

/-- What holds ahead of each round. -/
structure OnceJ (D M : Nat) (l : List (Nat × Nat)) (a : Option Addr) (m c N : Nat) (mp : List (Nat × Nat)) (w W : World) : Prop where
  blk : W.heap[D]? = some (.cells #[.slice a m c, .int .u64 ((N : Nat) : Int)] 25 (0, 0))
  ld : Leads W a m c (mcells l)
  ap : ∀ b off, a = some ⟨b, off, none⟩ → b ≠ D ∧ b ≠ M
  len : l.length = m
  good : goodM l N = true
  ok : mok l
  ids : IdsI W M mp
  lt : ∀ p ∈ mp, p.1 < N
  below : Below w.heap.size w W
section
variable {D M : Nat} {l : List (Nat × Nat)} {a : Option Addr} {m c N : Nat} {mp : List (Nat × Nat)} {w W W' : World}
theorem OnceJ.grow (h : OnceJ D M l a m c N mp w W) (hb : Below W.heap.size W W') : OnceJ D M l a m c N mp w W' :=
  ⟨keep_laid h.blk hb, h.ld.grow hb, h.ap, h.len, h.good, h.ok, h.ids.grow hb, h.lt, step h.below hb⟩
theorem OnceJ.put {k : Nat} (h : OnceJ D M l a m c N mp w W) (hDM : D ≠ M) (hwM : w.heap.size ≤ M) (hI : IdsI W' M (mp ++ [(k, 1)])) (hg : W.grownBy W' (some M)) (hk : k < N) : OnceJ D M l a m c N (mp ++ [(k, 1)]) w W' :=
  ⟨keep_grown h.blk hg (fun g hg => by cases hg; exact Ne.symm hDM), h.ld.grown hg (fun b off e => (h.ap b off e).2), h.ap, h.len, h.good, h.ok, hI,
    fun p hp => by rcases List.mem_append.1 hp with hp | hp; exact h.lt p hp; rw [List.mem_singleton] at hp; subst hp; exact hk,
    h.below.trans (below_grown hg hwM h.below.size)⟩
theorem IdsI.other {b D i : Nat} {u : Value} (h : IdsI W b mp) (hne : b ≠ D) : IdsI (W.setCell ⟨D, i, none⟩ u) b mp := by
  obtain ⟨es, clock, hb', F, hs, hD⟩ := h
  exact ⟨es, clock, (Below.heap_setCell W ⟨D, i, none⟩ u b hne).trans hb', F, hs, hD⟩
/-- Other mounts are stored in the variable's block. -/
theorem OnceJ.set {l' : List (Nat × Nat)} {a' : Option Addr} {m' c' N' : Nat} {mp' : List (Nat × Nat)} (h : W.heap[D]? = some (.cells #[.slice a m c, .int .u64 ((N : Nat) : Int)] 25 (0, 0))) (hDM : D ≠ M) (hwD : w.heap.size ≤ D) (hb : Below w.heap.size w W)
    (ld : Leads W a' m' c' (mcells l')) (ap : ∀ b off, a' = some ⟨b, off, none⟩ → b ≠ D ∧ b ≠ M) (len : l'.length = m') (good : goodM l' N' = true) (ok : mok l') (ids : IdsI W M mp') (lt : ∀ p ∈ mp', p.1 < N') :
    OnceJ D M l' a' m' c' N' mp' w ((W.setCell ⟨D, 0, none⟩ (.slice a' m' c')).setCell ⟨D, 1, none⟩ (.int .u64 ((N' : Nat) : Int))) :=
  ⟨set_laid (i := 1) (set_laid (i := 0) h (.slice a' m' c')) (.int .u64 ((N' : Nat) : Int)), (ld.apart_set (fun b off e => (ap b off e).1)).apart_set (fun b off e => (ap b off e).1), ap, len, good, ok, (ids.other (Ne.symm hDM)).other (Ne.symm hDM), lt,
    (hb.setCell (p := ⟨D, 0, none⟩) hwD (.slice a' m' c')).setCell (p := ⟨D, 1, none⟩) hwD (.int .u64 ((N' : Nat) : Int))⟩
end

set_option maxRecDepth 100000 in
set_option maxHeartbeats 8000000 in
theorem mountOnce.walk (a0 : Option Addr) (cap0 nx : Nat) (ms : List (Nat × Nat)) (at0 : Option Addr) (capt : Nat) (ts : List (Bool × Nat)) (w : World) (h0 : Leads w a0 ms.length cap0 (mcells ms)) (ok0 : mok ms) (hnx : nx < 18446744073709551616) (ht : Leads w at0 ts.length capt (turncells ts)) (okt : turnok ts) :
    Calls Try.prog 5 #[.agg #[.slice a0 ms.length cap0, .int .u64 (nx : Nat)], .slice at0 ts.length capt] w (Ret (.bool true) w) := by
  obtain ⟨n0, en0⟩ : ∃ n, ms.length = n := ⟨_, rfl⟩
  rw [en0] at h0 ⊢
  obtain ⟨nt, ent⟩ : ∃ n, ts.length = n := ⟨_, rfl⟩
  rw [ent] at ht ⊢
  obtain ⟨n, hn⟩ : ∃ n : Nat, min (n0 : Int) 18 = (n : Int) := ⟨min n0 18, by omega⟩
  have hn18 : n ≤ 18 := by omega
  obtain ⟨l, hlt⟩ : ∃ l, ms.take n = l := ⟨_, rfl⟩
  have hll : l.length = n := by rw [← hlt, List.length_take, en0]; omega
  have hlk : mok l := fun p hp => ok0 p (List.mem_of_mem_take (hlt ▸ hp))
  obtain ⟨B, hB⟩ : ∃ B, w.heap.size = B := ⟨_, rfl⟩
  obtain ⟨w1, hw1, hb1, hs1, hl1⟩ := laid w #[.slice a0 n0 cap0, .int .u64 ((nx : Nat) : Int)] 25
  rw [hB] at hl1
  have HL1 := hid hl1
  have HLL := hid hll
  have HLK := hid hlk
  have HT := hid ht
  have HNT := hid ent
  have HOT := hid okt
  have hntc := ht.len.1
  have HOWN := hid fun W (hW : Below w1.heap.size w1 W) => own_any ms a0 n0 n cap0 nx W en0 hn (h0.grow (step hb1 hW))
  rw [hlt] at HOWN
  have hC := fun W a c h => mCheck_any l a n c nx W HLL.out HLK.out (by omega) hnx h
  clear hl1 hll hlk hlt h0 ok0 en0 hs1 hn ht ent okt
  cases hg : goodM l nx with
  | false =>
    have hUN := fun W a c h => mUnder_any l a n c nx 47 W HLL.out HLK.out (by omega) hnx (by decide) h
    rw [show underN l nx 47 = [] by unfold underN chk2E; rw [hg]; rfl] at hUN
    rw [show chkE l nx = 340 by unfold chkE; rw [hg]; rfl] at hC
    have HC := hid hC
    have HUN := hid hUN
    clear hC hg hUN
    go_enter Try.func5, Try.ntmps5
    go_wp2_with fail
    refine (wakes_any _).mono ?_
    rintro e w2 ⟨rfl, hb2⟩
    have k0 := cell_laid (i := 0) (keep_laid HL1.out hb2) rfl
    have k1 := cell_laid (i := 1) (keep_laid HL1.out hb2) rfl
    go_wp2_with fail
    refine (HOWN.out _ hb2).mono ?_
    rintro e w3 ⟨v, rfl, ho, hb3⟩
    obtain ⟨a1, c1, rfl, hld⟩ := Leads.of_own ho
    obtain ⟨w4, hw4, hb4, hs4, hl4⟩ := laid w3 #[.slice a1 n c1, .int .u64 ((nx : Nat) : Int)] 25
    have HV4 := hid (hld.grow hb4)
    have HL4 := hid hl4
    have hb14 := step (step (step hb1 hb2) hb3) hb4
    have m0 := cell_laid (i := 0) hl4 rfl
    have m1 := cell_laid (i := 1) hl4 rfl
    clear k0 k1 ho hld hl4 hs4
    go_wp2_with fail
    refine (HC.out _ _ _ HV4.out).mono ?_
    rintro e w5 ⟨rfl, hb5⟩
    have j0 := cell_laid (i := 0) (keep_laid HL4.out hb5) rfl
    have j1 := cell_laid (i := 1) (keep_laid HL4.out hb5) rfl
    go_wp2_with fail
    refine (HUN.out _ _ _ (HV4.out.grow hb5)).mono ?_
    rintro e w6 ⟨v, rfl, ho, hb6⟩
    have ho : w6.ownsRow w5.heap.size 23 1 v 0 (wcells []) := ho
    obtain ⟨a2, c2, rfl, hl2⟩ := Leads.of_own ho
    clear ho hl2
    go_wp2
    go_ret
    exact ⟨rfl, step (step hb14 hb5) hb6⟩
  | true =>
    rw [show chkE l nx = 0 by unfold chkE; rw [hg]; rfl] at hC
    have HC := hid hC
    have HG := hid hg
    have hmm := @run_makeMap Try.prog
    clear hC hg
    go_enter Try.func5, Try.ntmps5
    go_wp2_with fail
    refine (wakes_any _).mono ?_
    rintro e w2 ⟨rfl, hb2⟩
    have k0 := cell_laid (i := 0) (keep_laid HL1.out hb2) rfl
    have k1 := cell_laid (i := 1) (keep_laid HL1.out hb2) rfl
    go_wp2_with fail
    refine (HOWN.out _ hb2).mono ?_
    rintro e w3 ⟨v, rfl, ho, hb3⟩
    obtain ⟨a1, c1, rfl, hld⟩ := Leads.of_own ho
    obtain ⟨w4, hw4, hb4, hs4, hl4⟩ := laid w3 #[.slice a1 n c1, .int .u64 ((nx : Nat) : Int)] 25
    obtain ⟨D, hD⟩ : ∃ D, w3.heap.size = D := ⟨_, rfl⟩
    rw [hD] at hl4 hs4
    have hb14 := step (step (step hb1 hb2) hb3) hb4
    have hwD : w.heap.size ≤ D := by have := (step (step hb1 hb2) hb3).size; omega
    have HA1 := hid (own_lt ho)
    have HV4 := hid (hld.grow hb4)
    have HL4 := hid hl4
    have m0 := cell_laid (i := 0) hl4 rfl
    have m1 := cell_laid (i := 1) hl4 rfl
    clear k0 k1 ho hld hl4 hs4 HL1
    go_wp2_with fail
    refine (HC.out _ _ _ HV4.out).mono ?_
    rintro e w5 ⟨rfl, hb5⟩
    obtain ⟨M, hM⟩ : ∃ M, w5.heap.size = M := ⟨_, rfl⟩
    obtain ⟨w6, hw6⟩ : ∃ w6, w5.alloc (.map #[] 0) = w6 := ⟨_, rfl⟩
    have hb6 : Below w5.heap.size w5 w6 := by rw [← hw6]; exact (Below.refl _ _).alloc (Nat.le_refl _) _
    have hid0 : IdsI w6 M [] := by rw [← hw6, ← hM]; exact IdsI.made w5
    have hDM : D < M := by have := lt_laid HL4.out; have := hb5.size; omega
    have hwM : w.heap.size ≤ M := by omega
    have hJ6 : OnceJ D M l a1 n c1 nx ((l.take 0).map fun p => (p.2, 1)) w w6 :=
      ⟨keep_laid HL4.out (step hb5 hb6), HV4.out.grow (step hb5 hb6), fun b off e => by have := HA1.out b (by rw [e]; rfl); omega, HLL.out, HG.out, HLK.out, by simpa using hid0, by simp, step (step hb14 hb5) hb6⟩
    have HJ6 := hid hJ6
    have j0 := cell_laid (i := 0) HJ6.out.blk rfl
    have HPOS := hid (good_pos HG.out)
    clear m0 m1 hid0 hJ6 HV4 HL4 HA1
    go_wp2
    go_loopg [35] n (fun g i wr => ∃ k : Nat, g + k = n ∧ i = .int .i64 (k : Nat) ∧ Hid (OnceJ D M l a1 n c1 nx ((l.take k).map fun p => (p.2, 1)) w wr))
    case atStart => exact ⟨0, rfl, rfl, HJ6⟩
    case round =>
      obtain ⟨k, hk, rfl, HJ⟩ := hrel
      have HK := hid hk
      clear hk
      by_cases hlt : k < n
      · obtain ⟨⟨p1, p2⟩, hp⟩ : ∃ p, l[k]? = some p := ⟨_, List.getElem?_eq_getElem (by rw [HLL.out]; exact hlt)⟩
        have hin : (p1, p2) ∈ l := List.mem_of_getElem? hp
        have hp2 := (HLK.out _ hin).2
        have hpn := (HPOS.out _ hin).2.1
        dsimp only at hp2 hpn
        obtain ⟨b, off, ea, hbl, hc⟩ := HJ.out.ld.mount hlt hp
        have hc1 := (hc wr (Below.refl _ _)).1
        have hc2 := (hc wr (Below.refl _ _)).2
        dsimp only at hc1 hc2
        subst ea
        have HS : Hid ((l.take (k + 1)).map (fun p => (p.2, 1)) = (l.take k).map (fun p => (p.2, 1)) ++ [(p2, 1)]) := hid (by rw [List.take_add_one, hp, List.map_append]; rfl)
        obtain ⟨wb, hwb, hbb, hsb, hlb⟩ := laid wr #[.int .u64 ((p1 : Nat) : Int), .int .u64 ((p2 : Nat) : Int)] 51
        have hx0 := cell_laid hlb (i := 0) rfl
        have hx1 := cell_laid hlb (i := 1) rfl
        have HJB := hid (HJ.out.grow hbb)
        have HLN : Hid (((l.take k).map fun p => (p.2, 1)).length ≤ 1000) := hid (by rw [List.length_map, List.length_take]; omega)
        clear hp hc hlb hin hbl
        go_wp2_with (at_mapUpdate; refine wp_putG rfl _ _ _ 49 rfl Try.underlying49 M p2 1 _ rfl HJB.out.ids HLN.out rfl rfl hp2 (by decide) ?_; intro w7 hI7 hg7)
        have HJ7 := hid (HJB.out.put (by omega) hwM hI7 hg7 hpn)
        clear hI7 hg7
        go_roundg (gk - 1)
        case measure => have := HK.out; omega
        case rel => exact ⟨k + 1, by have := HK.out; omega, by go_num, hid (by rw [HS.out]; exact HJ7.out)⟩
      · have e := HK.out
        obtain rfl : k = n := by omega
        have HLM : Hid (((l.take k).map fun p => (p.2, 1)).length ≤ 18) := hid (by rw [List.length_map, List.length_take]; omega)
        have hN0 : nx ≤ 1073741825 := (good_spec.1 HG.out).2.2.2.2
        have hk16 : k ≤ 16 := by have := (good_spec.1 HG.out).2.1; have := HLL.out; omega
        clear e
        go_wp2
        go_loopg [9, 12, 13, 14, 16, 17, 18, 19, 45] nt (fun g _ _ _ _ _ _ _ _ i wr => ∃ (q m : Nat) (l : List (Nat × Nat)) (a : Option Addr) (c N : Nat) (mp : List (Nat × Nat)), g + q = nt ∧ q ≤ 40 ∧ i = .int .i64 (q : Nat) ∧ m ≤ 16 ∧ N ≤ 1073741825 ∧ Hid (mp.length ≤ 18 + q) ∧ Hid (OnceJ D M l a m c N mp w wr))
        case atStart => exact ⟨0, k, l, a1, c1, nx, _, rfl, Nat.zero_le _, rfl, hk16, hN0, HLM, HJ⟩
        case round =>
          clear HJ HLM HJ6 HK j0
          obtain ⟨q, m, l, a, c, N, mp, hq, hq40, rfl, hm16, hN, HML, HJ⟩ := hrel
          have HQ := hid hq
          have hCK := mCheck_any l a m c N wr HJ.out.len HJ.out.ok (by omega) (by omega) HJ.out.ld
          rw [show chkE l N = 0 by unfold chkE; rw [HJ.out.good]; rfl] at hCK
          have HCK := hid hCK
          have i0 := cell_laid (i := 0) HJ.out.blk rfl
          have i1 := cell_laid (i := 1) HJ.out.blk rfl
          clear hq hCK
          by_cases hlt : q < nt
          · obtain ⟨⟨dr, x⟩, hp⟩ : ∃ p, ts[q]? = some p := ⟨_, List.getElem?_eq_getElem (by rw [HNT.out]; exact hlt)⟩
            have hx := HOT.out _ (List.mem_of_getElem? hp)
            dsimp only at hx
            obtain ⟨tb, toff, eta, hc⟩ := HT.out.turn hlt hp
            have hc1 := (hc wr HJ.out.below).1
            have hc2 := (hc wr HJ.out.below).2
            dsimp only at hc1 hc2
            subst eta
            obtain ⟨wb, hwb, hbb, hsb, hlb⟩ := laid wr #[.bool dr, .int .u64 ((x : Nat) : Int)] 31
            have HLB := hid hlb
            have hx0 := cell_laid hlb (i := 0) rfl
            have hx1 := cell_laid hlb (i := 1) rfl
            have HJB := hid (HJ.out.grow hbb)
            have b0 := cell_laid (i := 0) HJB.out.blk rfl
            have b1 := cell_laid (i := 1) HJB.out.blk rfl
            clear hp hc hlb hsb
            by_cases h40 : q = 40
            · subst h40
              have hCK := mCheck_any l a m c N wb HJB.out.len HJB.out.ok (by omega) (by omega) HJB.out.ld
              rw [show chkE l N = 0 by unfold chkE; rw [HJB.out.good]; rfl] at hCK
              have HCK := hid hCK
              clear hCK
              go_wp2_with fail
              refine HCK.out.mono ?_
              rintro e w8 ⟨rfl, hb8⟩
              have hfin := step HJB.out.below hb8
              go_wp2
              go_ret
              exact ⟨rfl, hfin⟩
            · have q40 : (((q : Nat) : Int) == 40) = false := by simp; omega
              cases dr with
              | true =>
                have hDR := mDrop_any l a m c N x wb HJB.out.len HJB.out.ok (by omega) (by omega) hx HJB.out.ld
                by_cases hE : dropE l N x = 0
                · obtain ⟨hg', hr, hh, -⟩ := drop_good hE
                  have hkl := kept_len hg' hh
                  obtain ⟨m1, hm1⟩ : ∃ m1, (keptM l x).length = m1 := ⟨_, rfl⟩
                  have hlen := HJB.out.len
                  have hmm1 : m = m1 + 1 := by omega
                  have hm1le : m1 ≤ 16 := by omega
                  have hDR : Calls Try.prog 11 #[.agg #[.slice a m c, .int .u64 (N : Nat)], .int .u64 ((x : Nat) : Int)] wb (fun e w' => ∃ a' c', e = .returned (.tuple #[.agg #[.slice a' m1 c', .int .u64 ((N : Nat) : Int)], .int .i64 0]) ∧ w'.ownsRow wb.heap.size 51 2 (.slice a' m1 c') m1 (mcells (keptM l x)) ∧ Below wb.heap.size wb w') := by
                    refine hDR.mono ?_
                    rintro e w' ⟨v, h1, hb⟩
                    rw [if_pos hE, hm1] at h1
                    obtain ⟨rfl, ho⟩ := h1
                    obtain ⟨a', c', rfl, -⟩ := Leads.of_own ho
                    exact ⟨a', c', rfl, ho, hb⟩
                  have hOF := fun W a' c' h => mOf_any (keptM l x) a' m1 c' N x W hm1 (kept_ok HJB.out.ok) (by omega) (by omega) hx h
                  rw [of_dropped hE] at hOF
                  have qlen : (((m1 : Nat) : Int) != ((m : Nat) : Int) - 1) = false := by simp; omega
                  have HDR := hid hDR
                  have HOF := hid hOF
                  have HGK := hid (good_kept x hg')
                  have HM1 := hid hm1
                  clear hDR hOF hE hg' hr hh hkl hm1 hlen hmm1 i0 i1
                  go_wp2_with fail
                  refine HDR.out.mono ?_
                  rintro e w8 ⟨a', c', rfl, ho8, hb8⟩
                  obtain ⟨w9, hw9, hb9, hs9, hl9⟩ := laid w8 #[.slice a' m1 c', .int .u64 ((N : Nat) : Int)] 25
                  obtain ⟨E, hE⟩ : ∃ E, w8.heap.size = E := ⟨_, rfl⟩
                  rw [hE] at hl9
                  have hb89 := step hb8 hb9
                  have HLD9 := hid (leads_own (own_grow ho8 hb9))
                  have HAP : Hid (∀ b off, a' = some ⟨b, off, none⟩ → b ≠ D ∧ b ≠ M) := hid (fun b off e => by
                    have h1 := ho8.lt b (by rw [e]; rfl)
                    have h2 := lt_laid HJB.out.blk
                    have h3 := World.ownsMap.lt HJB.out.ids
                    omega)
                  have y0 := cell_laid (i := 0) (keep_laid HLB.out hb89) rfl
                  have y1 := cell_laid (i := 1) (keep_laid HLB.out hb89) rfl
                  have z0 := cell_laid (i := 0) hl9 rfl
                  have z1 := cell_laid (i := 1) hl9 rfl
                  have HL9 := hid hl9
                  clear ho8 hl9 hs9 hx0 hx1 b0 b1
                  go_wp2_with fail
                  refine (HOF.out _ _ _ HLD9.out).mono ?_
                  rintro e w10 ⟨rfl, hb10⟩
                  have hb810 := step hb89 hb10
                  have HJ10 := hid (HJB.out.grow hb810)
                  have v0 := cell_laid (i := 0) (keep_laid HL9.out hb10) rfl
                  have v1 := cell_laid (i := 1) (keep_laid HL9.out hb10) rfl
                  have d0 := cell_laid (i := 0) HJ10.out.blk rfl
                  have d1 := cell_laid (i := 1) HJ10.out.blk rfl
                  have hf0 := free_laid (i := 0) HJ10.out.blk
                  have hf1 := free_laid (i := 1) HJ10.out.blk
                  have HJE := hid (HJ10.out.blk |> fun hblk => OnceJ.set (l' := keptM l x) (a' := a') (m' := m1) (c' := c') (N' := N) (mp' := mp) hblk (show D ≠ M by omega) hwD HJ10.out.below (HLD9.out.grow hb10) HAP.out HM1.out HGK.out (kept_ok HJ10.out.ok) HJ10.out.ids HJ10.out.lt)
                  clear z0 z1 y0 y1
                  go_wp2
                  go_roundg (gk - 1)
                  case measure => have := HQ.out; omega
                  case rel => exact ⟨q + 1, m1, keptM l x, a', c', N, mp, by have := HQ.out; omega, by omega, by go_num, by omega, hN, hid (by have := HML.out; omega), HJE⟩
                · have hDR : Calls Try.prog 11 #[.agg #[.slice a m c, .int .u64 (N : Nat)], .int .u64 ((x : Nat) : Int)] wb (Ret (.tuple #[.agg #[.slice none 0 0, .int .u64 0], .int .i64 (dropE l N x)]) wb) := by
                    refine hDR.mono ?_
                    rintro e w' ⟨v, h1, hb⟩
                    rw [if_neg hE] at h1
                    exact ⟨h1, hb⟩
                  obtain ⟨E, hEE⟩ : ∃ E, dropE l N x = E := ⟨_, rfl⟩
                  rw [hEE] at hDR hE
                  have qE : (E == 0) = false := by simpa using hE
                  have HDR := hid hDR
                  clear hDR hEE i0 i1
                  go_wp2_with fail
                  refine HDR.out.mono ?_
                  rintro e w8 ⟨rfl, hb8⟩
                  obtain ⟨w9, hw9, hb9, hs9, hl9⟩ := laid w8 #[.slice none 0 0, .int .u64 0] 25
                  have hf0 := free_laid (i := 0) hl9
                  have hf1 := free_laid (i := 1) hl9
                  have hd0 := cell_laid (i := 0) hl9 rfl
                  have hd1 := cell_laid (i := 1) hl9 rfl
                  obtain ⟨w9x, hw9x⟩ : ∃ w9x, (w9.setCell ⟨w8.heap.size, 0, none⟩ (.slice none 0 0)).setCell ⟨w8.heap.size, 1, none⟩ (.int .u64 0) = w9x := ⟨_, rfl⟩
                  have hb9 : Below w8.heap.size w8 w9x := by rw [← hw9x]; exact (hb9.setCell (p := ⟨w8.heap.size, 0, none⟩) (Nat.le_refl _) (.slice none 0 0)).setCell (p := ⟨w8.heap.size, 1, none⟩) (Nat.le_refl _) (.int .u64 0)
                  clear hs9 hl9 b0 b1
                  go_wp2
                  go_roundg (gk - 1)
                  case measure => have := HQ.out; omega
                  case rel => exact ⟨q + 1, m, l, a, c, N, mp, by have := HQ.out; omega, by omega, by go_num, hm16, hN, hid (by have := HML.out; omega), hid (HJB.out.grow (step hb8 hb9))⟩
              | false =>
                have hAD := mAdd_any l a m c N x wb HJB.out.len HJB.out.ok (by omega) (by omega) hx HJB.out.ld
                by_cases hE : addE l N x = 0
                · obtain ⟨hg', hg0, hr, hN4⟩ := good_added hE
                  obtain ⟨m1, hm1⟩ : ∃ m1, m + 1 = m1 := ⟨_, rfl⟩
                  obtain ⟨N1, hN1⟩ : ∃ N1, N + 1 = N1 := ⟨_, rfl⟩
                  have hlen := HJB.out.len
                  have hm17 : m1 ≤ 16 := by have := (good_spec.1 hg').2.1; rw [List.length_append] at this; simp at this; omega
                  have hAD : Calls Try.prog 13 #[.agg #[.slice a m c, .int .u64 (N : Nat)], .int .u64 ((x : Nat) : Int)] wb (fun e w' => ∃ a' c', e = .returned (.tuple #[.agg #[.slice a' m1 c', .int .u64 ((N1 : Nat) : Int)], .int .u64 ((N : Nat) : Int), .int .i64 0]) ∧ w'.ownsRow wb.heap.size 51 2 (.slice a' m1 c') m1 (mcells (l ++ [(x, N)])) ∧ Below wb.heap.size wb w') := by
                    refine hAD.mono ?_
                    rintro e w' ⟨v, h1, hb⟩
                    rw [if_pos hE, hlen, hm1, hN1] at h1
                    obtain ⟨rfl, ho⟩ := h1
                    obtain ⟨a', c', rfl, -⟩ := Leads.of_own ho
                    exact ⟨a', c', rfl, ho, hb⟩
                  have hRS := fun W a' c' h => mResolve_any (l ++ [(x, N)]) a' m1 c' N1 x W (by rw [List.length_append]; simp; omega) (added_ok HJB.out.ok hx (by omega)) (by omega) (by omega) hx h
                  rw [show resMV (l ++ [(x, N)]) N1 x = _ from hN1 ▸ res_added hE] at hRS
                  rw [hN1] at hg'
                  have HAD := hid hAD
                  have HRS := hid hRS
                  have HGK := hid hg'
                  have HM1 := hid hm1
                  have HN1 := hid hN1
                  have HLEN := hid hlen
                  clear hAD hRS hE hg' hg0 hr hm1 hN1 hlen i0 i1
                  go_wp2_with fail
                  refine HAD.out.mono ?_
                  rintro e w8 ⟨a', c', rfl, ho8, hb8⟩
                  obtain ⟨w9, hw9, hb9, hs9, hl9⟩ := laid w8 #[.slice a' m1 c', .int .u64 ((N1 : Nat) : Int)] 25
                  obtain ⟨E, hE⟩ : ∃ E, w8.heap.size = E := ⟨_, rfl⟩
                  rw [hE] at hl9
                  have hb89 := step hb8 hb9
                  have HLD9 := hid (leads_own (own_grow ho8 hb9))
                  have HAP : Hid (∀ b off, a' = some ⟨b, off, none⟩ → b ≠ D ∧ b ≠ M) := hid (fun b off e => by
                    have h1 := ho8.lt b (by rw [e]; rfl)
                    have h2 := lt_laid HJB.out.blk
                    have h3 := World.ownsMap.lt HJB.out.ids
                    omega)
                  have HEM : Hid (E ≠ M ∧ E ≠ D) := hid (by
                    have h1 := hb8.size
                    have h2 := lt_laid HJB.out.blk
                    have h3 := World.ownsMap.lt HJB.out.ids
                    omega)
                  have y0 := cell_laid (i := 0) (keep_laid HLB.out hb89) rfl
                  have y1 := cell_laid (i := 1) (keep_laid HLB.out hb89) rfl
                  have z0 := cell_laid (i := 0) hl9 rfl
                  have z1 := cell_laid (i := 1) hl9 rfl
                  have HL9 := hid hl9
                  clear ho8 hl9 hs9 hx0 hx1 b0 b1
                  go_wp2_with fail
                  refine (HRS.out _ _ _ HLD9.out).mono ?_
                  rintro e w10 ⟨rfl, hb10⟩
                  have hb810 := step hb89 hb10
                  have HJ10 := hid (HJB.out.grow hb810)
                  have HAT : Hid (atM mp N = 0) := hid (at_less HJ10.out.lt)
                  have HL10 := hid (keep_laid HL9.out hb10)
                  have HMP : Hid (mp.length ≤ 1000) := hid (by have := HML.out; omega)
                  have hN64 : N < 18446744073709551616 := by omega
                  clear z0 z1 y0 y1
                  go_wp2_with (first | (at_lookup; refine wp_atI rfl _ _ 49 rfl Try.underlying49 M N mp rfl HJ10.out.ids rfl hN64 ?_; rw [HAT.out]) | (at_mapUpdate; refine wp_putG rfl _ _ _ 49 rfl Try.underlying49 M N 1 mp rfl HJ10.out.ids HMP.out rfl rfl hN64 (by decide) ?_; intro w11 hI11 hg11; have HI11 := hid hI11; have HG11 := hid hg11; clear hI11 hg11; have v0 := cell_laid (i := 0) (keep_grown HL10.out HG11.out (fun g hg => by cases hg; exact Ne.symm HEM.out.1)) rfl; have v1 := cell_laid (i := 1) (keep_grown HL10.out HG11.out (fun g hg => by cases hg; exact Ne.symm HEM.out.1)) rfl; have hDb := keep_grown HJ10.out.blk HG11.out (fun g hg => by cases hg; omega); have HDB := hid hDb; clear hDb; have d0 := cell_laid (i := 0) HDB.out rfl; have d1 := cell_laid (i := 1) HDB.out rfl; have hf0 := free_laid (i := 0) HDB.out; have hf1 := free_laid (i := 1) HDB.out))
                  have HJE := hid (OnceJ.set (l' := l ++ [(x, N)]) (a' := a') (m' := m1) (c' := c') (N' := N1) (mp' := mp ++ [(N, 1)]) HDB.out (show D ≠ M by omega) hwD (HJ10.out.below.trans (below_grown HG11.out hwM HJ10.out.below.size)) ((HLD9.out.grow hb10).grown HG11.out (fun b off e => (HAP.out b off e).2)) HAP.out (by rw [List.length_append]; have := HLEN.out; have := HM1.out; simp; omega) HGK.out (added_ok HJ10.out.ok hx (by omega)) HI11.out (by
                    intro p hp
                    have := HN1.out
                    rcases List.mem_append.1 hp with hp | hp
                    · have := HJ10.out.lt p hp; omega
                    · rw [List.mem_singleton] at hp; subst hp; show N < N1; omega))
                  go_wp2
                  go_roundg (gk - 1)
                  case measure => have := HQ.out; omega
                  case rel => exact ⟨q + 1, m1, l ++ [(x, N)], a', c', N1, mp ++ [(N, 1)], by have := HQ.out; omega, by omega, by go_num, hm17, by have := HN1.out; omega, hid (by rw [List.length_append]; have := HML.out; simp; omega), HJE⟩
                · have hAD : Calls Try.prog 13 #[.agg #[.slice a m c, .int .u64 (N : Nat)], .int .u64 ((x : Nat) : Int)] wb (Ret (.tuple #[.agg #[.slice none 0 0, .int .u64 0], .int .u64 0, .int .i64 (addE l N x)]) wb) := by
                    refine hAD.mono ?_
                    rintro e w' ⟨v, h1, hb⟩
                    rw [if_neg hE] at h1
                    exact ⟨h1, hb⟩
                  obtain ⟨E, hEE⟩ : ∃ E, addE l N x = E := ⟨_, rfl⟩
                  rw [hEE] at hAD hE
                  have qE : (E == 0) = false := by simpa using hE
                  have HAD := hid hAD
                  clear hAD hEE i0 i1
                  go_wp2_with fail
                  refine HAD.out.mono ?_
                  rintro e w8 ⟨rfl, hb8⟩
                  obtain ⟨w9, hw9, hb9, hs9, hl9⟩ := laid w8 #[.slice none 0 0, .int .u64 0] 25
                  have hf0 := free_laid (i := 0) hl9
                  have hf1 := free_laid (i := 1) hl9
                  have hd0 := cell_laid (i := 0) hl9 rfl
                  have hd1 := cell_laid (i := 1) hl9 rfl
                  obtain ⟨w9x, hw9x⟩ : ∃ w9x, (w9.setCell ⟨w8.heap.size, 0, none⟩ (.slice none 0 0)).setCell ⟨w8.heap.size, 1, none⟩ (.int .u64 0) = w9x := ⟨_, rfl⟩
                  have hb9 : Below w8.heap.size w8 w9x := by rw [← hw9x]; exact (hb9.setCell (p := ⟨w8.heap.size, 0, none⟩) (Nat.le_refl _) (.slice none 0 0)).setCell (p := ⟨w8.heap.size, 1, none⟩) (Nat.le_refl _) (.int .u64 0)
                  clear hs9 hl9 b0 b1
                  go_wp2
                  go_roundg (gk - 1)
                  case measure => have := HQ.out; omega
                  case rel => exact ⟨q + 1, m, l, a, c, N, mp, by have := HQ.out; omega, by omega, by go_num, hm16, hN, hid (by have := HML.out; omega), hid (HJB.out.grow (step hb8 hb9))⟩
          · have hbl := HJ.out.below
            clear HQ
            go_wp2_with fail
            refine HCK.out.mono ?_
            rintro e w8 ⟨rfl, hb8⟩
            go_wp2
            go_ret
            exact ⟨rfl, step hbl hb8⟩
end Go.Proofs.Ytbfhppafffhlkaa
