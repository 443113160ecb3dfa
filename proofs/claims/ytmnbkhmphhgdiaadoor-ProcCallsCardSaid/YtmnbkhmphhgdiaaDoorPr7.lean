/- Processes: what who spawns does in a table (printed by gen_pr7.py). -/
import Derived.Test.YtmnbkhmphhgdiaaDoorPrPlain2
namespace Go.Proofs.YtmnbkhmphhgdiaaDoor
open Go.RowKit Go.Shelf
open Go.Proofs
set_option linter.unusedVariables false
attribute [local go_sem] Oper.semAt_some
theorem prcells_set1 : ∀ (L : List Pr) (k : Nat) (x : Pr) (d : Nat), L[k]? = some x → (prcells L).set (k * 4 + 1) (.int .u64 ((d : Nat) : Int)) = prcells (L.set k (x.1, d, x.2.2.1, x.2.2.2))
  | [], k, x, d, h => by simp at h
  | y :: r, 0, x, d, h => by
    simp only [List.getElem?_cons_zero, Option.some.injEq] at h
    subst h
    rfl
  | y :: r, k + 1, x, d, h => by
    have ih := prcells_set1 r k x d (by simpa using h)
    rw [show (k + 1) * 4 + 1 = (k * 4 + 1) + 1 + 1 + 1 + 1 by omega]
    show _ :: _ :: _ :: _ :: (prcells r).set (k * 4 + 1) (.int .u64 ((d : Nat) : Int)) = _
    rw [ih]
    rfl

theorem prcells_set2 : ∀ (L : List Pr) (k : Nat) (x : Pr) (d : Bool), L[k]? = some x → (prcells L).set (k * 4 + 2) (.bool d) = prcells (L.set k (x.1, x.2.1, d, x.2.2.2))
  | [], k, x, d, h => by simp at h
  | y :: r, 0, x, d, h => by
    simp only [List.getElem?_cons_zero, Option.some.injEq] at h
    subst h
    rfl
  | y :: r, k + 1, x, d, h => by
    have ih := prcells_set2 r k x d (by simpa using h)
    rw [show (k + 1) * 4 + 2 = (k * 4 + 2) + 1 + 1 + 1 + 1 by omega]
    show _ :: _ :: _ :: _ :: (prcells r).set (k * 4 + 2) (.bool d) = _
    rw [ih]
    rfl

theorem prcells_set3 : ∀ (L : List Pr) (k : Nat) (x : Pr) (d : Nat), L[k]? = some x → (prcells L).set (k * 4 + 3) (.int .u64 ((d : Nat) : Int)) = prcells (L.set k (x.1, x.2.1, x.2.2.1, d))
  | [], k, x, d, h => by simp at h
  | y :: r, 0, x, d, h => by
    simp only [List.getElem?_cons_zero, Option.some.injEq] at h
    subst h
    rfl
  | y :: r, k + 1, x, d, h => by
    have ih := prcells_set3 r k x d (by simpa using h)
    rw [show (k + 1) * 4 + 3 = (k * 4 + 3) + 1 + 1 + 1 + 1 by omega]
    show _ :: _ :: _ :: _ :: (prcells r).set (k * 4 + 3) (.int .u64 ((d : Nat) : Int)) = _
    rw [ih]
    rfl

theorem setG (G : Nat → Int) (v : Int) (s : Value) : ∀ i, i < 16 → (#[.int .i64 (G 0), .int .i64 (G 1), .int .i64 (G 2), .int .i64 (G 3), .int .i64 (G 4), .int .i64 (G 5), .int .i64 (G 6), .int .i64 (G 7), .int .i64 (G 8), .int .i64 (G 9), .int .i64 (G 10), .int .i64 (G 11), .int .i64 (G 12), .int .i64 (G 13), .int .i64 (G 14), .int .i64 (G 15), s] : Array Value).setIfInBounds i (.int .i64 v) = #[.int .i64 ((updG G i v) 0), .int .i64 ((updG G i v) 1), .int .i64 ((updG G i v) 2), .int .i64 ((updG G i v) 3), .int .i64 ((updG G i v) 4), .int .i64 ((updG G i v) 5), .int .i64 ((updG G i v) 6), .int .i64 ((updG G i v) 7), .int .i64 ((updG G i v) 8), .int .i64 ((updG G i v) 9), .int .i64 ((updG G i v) 10), .int .i64 ((updG G i v) 11), .int .i64 ((updG G i v) 12), .int .i64 ((updG G i v) 13), .int .i64 ((updG G i v) 14), .int .i64 ((updG G i v) 15), s]
  | 0, _ => rfl
  | 1, _ => rfl
  | 2, _ => rfl
  | 3, _ => rfl
  | 4, _ => rfl
  | 5, _ => rfl
  | 6, _ => rfl
  | 7, _ => rfl
  | 8, _ => rfl
  | 9, _ => rfl
  | 10, _ => rfl
  | 11, _ => rfl
  | 12, _ => rfl
  | 13, _ => rfl
  | 14, _ => rfl
  | 15, _ => rfl
  | i + 16, h => absurd h (by omega)
theorem hasN (L : List Pr) (G : Nat → Int) (h : OkL G L) : 0 < L.length := by
  have := h.ne
  cases L with
  | nil => exact absurd rfl this
  | cons x r => simp

theorem spawn_bound {G : Nat → Int} {L : List Pr} {i : Nat} (h : OkL G L) (hi : leastI G L 0 = some i) : ∃ g : Nat, G i = (g : Int) ∧ g ≤ 65535 ∧ i < 16 := by
  obtain ⟨h1, -, h3⟩ := leastI_some hi
  have := (h.gens i h1).1
  exact ⟨(G i).toNat, by omega, by omega, h1⟩
set_option maxRecDepth 100000 in
set_option maxHeartbeats 8000000 in
theorem SpawnDoes (T n vc base X0 X1 parent : Nat) (va : Option Addr) (G : Nat → Int) (L : List Pr) (W : World) (hT : W.heap[T]? = some (.cells #[.int .i64 (G 0), .int .i64 (G 1), .int .i64 (G 2), .int .i64 (G 3), .int .i64 (G 4), .int .i64 (G 5), .int .i64 (G 6), .int .i64 (G 7), .int .i64 (G 8), .int .i64 (G 9), .int .i64 (G 10), .int .i64 (G 11), .int .i64 (G 12), .int .i64 (G 13), .int .i64 (G 14), .int .i64 (G 15), .slice va n vc] 65 (0, 0))) (hown : W.ownsRow base 45 4 (.slice va n vc) n (prcells L)) (hn : L.length = n) (hn5 : n ≤ 999) (hok : OkL G L) (hL : PrsOk L) (hb : base ≤ W.heap.size) (hp : parent < 18446744073709551616)
    (hX0 : W.heap[X0]? = some (.cells #[.int .u64 ((parent : Nat) : Int)] 29 (0, 0))) (hX1 : W.heap[X1]? = some (.cells #[.int .u64 ((0 : Nat) : Int)] 29 (0, 0))) (h01 : X0 ≠ X1) :
    Calls Tryd.prog 30 #[.pointer (some ⟨T, 0, none⟩), .pointer (some ⟨X0, 0, none⟩), .pointer (some ⟨X1, 0, none⟩)] W (DoesOk W base T (Value.slice va n vc).ownBlock (some X1) (spawnP G L parent)) := by
  have hl := Leads.of_own1 hown
  have hlen := hl.len
  have HRT := hid (fun hr => running_t T n vc parent va G L W hT hl hn (by omega) hr)
  have HRF := hid (fun hr => running_f T n vc parent va G L W hT hl hn (by omega) hr)
  have hX0T : X0 ≠ T := type_ne hX0 hT (by decide)
  have hX1T : X1 ≠ T := type_ne hX1 hT (by decide)
  have HG0 := hid (own_neP hown hX0 (by decide))
  have HG1 := hid (own_neP hown hX1 (by decide))
  have HN := hid hn
  have HOK := hid hok
  have HPL := hid hL
  have KT := hid hT
  have K0 := hid hX0
  have K1 := hid hX1
  have HOW := hid hown
  have HB := hid (Below.refl W.heap.size W)
  obtain ⟨RES, hRES⟩ : ∃ r, spawnP G L parent = r := ⟨_, rfl⟩
  rw [hRES]
  have HRES := hid hRES
  have hmf : ∀ (fn : Fn) (first cap : Array Value) (w : World), (Instr.makeFunc fn first cap).run Tryd.prog w = .ok (.func fn first cap) w := fun _ _ _ _ => rfl
  clear hT hX0 hX1 hown hl hn hok hL hRES
  have x0 := cell_laid (i := 0) K0.out rfl
  cases hr : runsB L parent with
  | false =>
    have HR := hid hr
    have HRF2 := hid (HRF.out hr)
    clear hr HRF HRT
    go_enter Tryd.func30, Tryd.ntmps30
    go_wp2_with fail
    refine (HRF2.out).mono ?_
    rintro e w1_42 ⟨rfl, hbn⟩
    have KT_1 := hid (keep_laid KT.out hbn)
    have K0_2 := hid (keep_laid K0.out hbn)
    have K1_3 := hid (keep_laid K1.out hbn)
    have HB_4 := hid (HB.out.trans (hbn.mono HB.out.size))
    have HOW_5 := hid (own_grow HOW.out hbn)
    clear KT K0 K1 HB HOW hbn HRF2 x0
    go_wp2
    rw [← HRES.out]
    unfold spawnP
    rw [if_neg (by rw [HR.out]; decide)]
    exact ⟨rfl, TchP.of_below HB_4.out, rfl, fun b hb => by cases hb; exact K1_3.out⟩
  | true =>
    have HR := hid hr
    have HRT2 := hid (HRT.out hr)
    clear hr HRF HRT
    go_enter Tryd.func30, Tryd.ntmps30
    go_wp2_with fail
    refine (HRT2.out).mono ?_
    rintro e w1_61 ⟨hr, hbn⟩
    have KT_1 := hid (keep_laid KT.out hbn)
    have K0_2 := hid (keep_laid K0.out hbn)
    have K1_3 := hid (keep_laid K1.out hbn)
    have HB_4 := hid (HB.out.trans (hbn.mono HB.out.size))
    have HOW_5 := hid (own_grow HOW.out hbn)
    clear KT K0 K1 HB HOW hbn HRT2 x0
    obtain ⟨k, x, b, off, -, -, -, -, -, rfl⟩ := hr
    have HLE := hid (least_any T n vc va G L w1_61 KT_1.out (Leads.of_own1 HOW_5.out) HN.out (by omega) HPL.out)
    cases hi : leastI G L 0 with
    | none =>
      rw [hi] at HLE
      have HI := hid hi
      clear hi
      go_wp2_with fail
      refine (HLE.out).mono ?_
      rintro e w2_77 ⟨he, hbn⟩
      have KT_6 := hid (keep_laid KT_1.out hbn)
      have K0_7 := hid (keep_laid K0_2.out hbn)
      have K1_8 := hid (keep_laid K1_3.out hbn)
      have HB_9 := hid (HB_4.out.trans (hbn.mono HB_4.out.size))
      have HOW_10 := hid (own_grow HOW_5.out hbn)
      clear KT_1 K0_2 K1_3 HB_4 HOW_5 hbn HLE
      obtain rfl := he
      go_wp2
      rw [← HRES.out]
      unfold spawnP
      rw [if_pos HR.out, HI.out]
      exact ⟨rfl, TchP.of_below HB_9.out, rfl, fun b hb => by cases hb; exact K1_8.out⟩
    | some i =>
      rw [hi] at HLE
      have HI := hid hi
      obtain ⟨g, hg, hg5, hi16⟩ := spawn_bound HOK.out hi
      clear hi
      go_wp2_with fail
      refine (HLE.out).mono ?_
      rintro e w2_97 ⟨he, hbn⟩
      have KT_6 := hid (keep_laid KT_1.out hbn)
      have K0_7 := hid (keep_laid K0_2.out hbn)
      have K1_8 := hid (keep_laid K1_3.out hbn)
      have HB_9 := hid (HB_4.out.trans (hbn.mono HB_4.out.size))
      have HOW_10 := hid (own_grow HOW_5.out hbn)
      clear KT_1 K0_2 K1_3 HB_4 HOW_5 hbn HLE
      obtain ⟨rfl, -⟩ := he
      have HGI := hid hg
      obtain ⟨m1, hm1⟩ : ∃ m, m = g * 64 := ⟨_, rfl⟩
      obtain ⟨m2, hm2⟩ : ∃ m, m = m1 + i := ⟨_, rfl⟩
      obtain ⟨pid, hpid⟩ : ∃ m, m = m2 + 1 := ⟨_, rfl⟩
      have HPID : Hid (pid = spawnAt G i) := hid (by unfold spawnAt; rw [hg]; omega)
      have hpb : pid < 10000000 := by omega
      have e1 : IntKind.i64.wrap ((g : Int) * 64) = ((m1 : Nat) : Int) := by rw [IntKind.wrap_i64]; omega
      have e2 : IntKind.i64.wrap ((m1 : Int) + (i : Int)) = ((m2 : Nat) : Int) := by rw [IntKind.wrap_i64]; omega
      have e3 : IntKind.i64.wrap ((m2 : Int) + 1) = ((pid : Nat) : Int) := by rw [IntKind.wrap_i64]; omega
      have e4 : IntKind.i64.wrap ((g : Int) + 1) = (g : Int) + 1 := by rw [IntKind.wrap_i64]; omega
      have ti : w2_97.cell? ⟨T, i, none⟩ = some (.int .i64 ((g : Nat) : Int)) := by rw [← hg]; exact cells16 KT_6.out i hi16
      have y0 := cell_laid (i := 0) K1_8.out rfl
      have yf0 := free_laid (i := 0) K1_8.out
      clear hm1 hm2 hpid
      go_upto_region 3 with (fail)
      have HBK := HB_9
      obtain ⟨uu, huu, -, -, -, hg5⟩ := putN1 K1_8.out (.int .u64 ((pid : Nat) : Int))
      have K1_8_o := K1_8.out
      obtain ⟨u3_125, hu3_125, a1, a2, a3, a4⟩ := putN1 K1_8.out (.int .u64 ((pid : Nat) : Int))
      have E4_125 := hid hu3_125
      have KT_11 := hid (a2 T _ (by omega) KT_6.out)
      have K0_12 := hid (a2 X0 _ (by omega) K0_7.out)
      have K1_13 := hid (a1)
      have HOW_14 := hid (own_keep HOW_10.out fun k o hk ho => a2 k o (fun e => own_neP HOW_10.out K1_8_o (by decide) (by rw [← e]; exact hk)) ho)
      clear KT_6 K0_7 K1_8 HOW_10 hu3_125 a1 a2 a3 a4
      clear K1_8_o
      rw [huu, ← E4_125.out] at hg5
      have HG5 := hid hg5
      clear hg5 huu uu
      rw [← E4_125.out]
      clear y0 yf0 ti
      have ti : ∀ z : Ext u3_125, z.v.cell? ⟨T, i, none⟩ = some (.int .i64 ((g : Nat) : Int)) := fun z => by rw [← hg]; exact cells16 (keep_laid KT_11.out z.b) i hi16
      obtain ⟨D, hD⟩ : ∃ DX, u3_125.drew = DX := ⟨_, rfl⟩
      have hbD : Below u3_125.heap.size u3_125 D := by rw [← hD]; exact (Below.refl _ _).drew
      have HD := hid hD
      have hbDK := hid hbD
      clear hD
      refine wp_region_mix3 (fun W => ∃ z : Ext u3_125, W = z.v) 12 (.q 0 (.q 1 (.q 2 (.q 3 (.q 4 (.q 5 (.q 6 (.q 7 (.q 8 (.q 9 (.q 10 (.q 11 .done)))))))))))) (by kernel_rfl) (by kernel_rfl) (by rw [HD.out]; exact ⟨⟨D, hbD⟩, rfl⟩) ?_
      rw [HD.out]
      have KT_15 := hid (keep_laid KT_11.out hbD)
      have K0_16 := hid (keep_laid K0_12.out hbD)
      have K1_17 := hid (keep_laid K1_13.out hbD)
      have HOW_18 := hid (own_grow HOW_14.out hbD)
      clear KT_11 K0_12 K1_13 HOW_14 hbD
      repeat (refine wpMix3_q rfl rfl ?_; go_big_quiet_step (fail); refine wpQuiet_nil ?_)
      refine wpMix3_done ?_
      simp only [List.drop_succ_cons, List.drop_zero]
      clear ti
      have ti : D.cell? ⟨T, i, none⟩ = some (.int .i64 ((g : Nat) : Int)) := by rw [← hg]; exact cells16 KT_15.out i hi16
      have tfi : D.frozen? ⟨T, i, none⟩ = false := free_laid (i := i) KT_15.out
      obtain ⟨u5, hu5⟩ : ∃ u, D.setCell ⟨T, i, none⟩ (.int .i64 ((g : Int) + 1)) = u := ⟨_, rfl⟩
      have E5 := hid hu5
      have a1 : u5.heap[T]? = some (.cells #[.int .i64 ((updG G i (G i + 1)) 0), .int .i64 ((updG G i (G i + 1)) 1), .int .i64 ((updG G i (G i + 1)) 2), .int .i64 ((updG G i (G i + 1)) 3), .int .i64 ((updG G i (G i + 1)) 4), .int .i64 ((updG G i (G i + 1)) 5), .int .i64 ((updG G i (G i + 1)) 6), .int .i64 ((updG G i (G i + 1)) 7), .int .i64 ((updG G i (G i + 1)) 8), .int .i64 ((updG G i (G i + 1)) 9), .int .i64 ((updG G i (G i + 1)) 10), .int .i64 ((updG G i (G i + 1)) 11), .int .i64 ((updG G i (G i + 1)) 12), .int .i64 ((updG G i (G i + 1)) 13), .int .i64 ((updG G i (G i + 1)) 14), .int .i64 ((updG G i (G i + 1)) 15), .slice va n vc] 65 (0, 0)) := by rw [← hu5, ← hg, ← setG G (G i + 1) _ i hi16]; exact set_laid (i := i) KT_15.out _
      have a2 : ∀ (k : Nat) (o : Obj), k ≠ T → D.heap[k]? = some o → u5.heap[k]? = some o := fun k o hk ho => by rw [← hu5]; exact other_laid ho hk _
      have F3 : Hid (TchP (Wr T (Value.slice va n vc).ownBlock (some X1)) W D) := hid (((TchP.of_below HBK.out).trans (TchP.of_grown HG5.out (.inr (.inr rfl)))).trans (TchP.of_below hbDK.out))
      have F5 := hid (F3.out.trans (TchP.of_grown (show D.grownBy u5 (some T) by rw [← hu5]; exact grownBy_setCell D T i _) (.inl rfl)))
      have T5 := hid a1
      have K05 := hid (a2 X0 _ hX0T K0_16.out)
      have K15 := hid (a2 X1 _ hX1T K1_17.out)
      have O5 := hid (own_keep HOW_18.out fun k o hk ho => a2 k o (fun e => own_neP HOW_18.out KT_15.out (by decide) (by rw [← e]; exact hk)) ho)
      clear hu5 a1 a2 KT_15 K0_16 K1_17 HOW_18
      go_upto_region 5 with (fail)
      rw [E5.out]
      clear ti tfi
      have x0 := cell_laid (i := 0) K05.out rfl
      have y0 := cell_laid (i := 0) K15.out rfl
      have hwb : base ≤ u5.heap.size := Nat.le_trans hb F5.out.size
      have HPU := hid (put_any T n vc base va (updG G i (G i + 1)) L (pid, parent, false, 0) u5 T5.out O5.out HN.out hn5 (by rw [← HN.out]; exact hasN L G HOK.out) HPL.out ⟨by show pid < _; omega, hp, by show 0 < _; omega⟩ hwb)
      unfold prV at HPU
      go_wp2_with fail
      refine HPU.out.mono ?_
      rintro e w9 ⟨rfl, ht, a', c', hT9, hO9⟩
      have HT9 := hid hT9
      have HO9 := hid hO9
      have HTT := hid ht
      have F9 := hid (F5.out.trans (show TchP (Wr T (Value.slice va n vc).ownBlock (some X1)) u5 w9 from ⟨ht.os, ht.tape, ht.output, ht.size, fun k hk hp => ht.block k hk (fun h => hp (by rcases h with h | h; exact .inl h; exact .inr (.inl h)))⟩))
      have K19 := hid (ht.keep K15.out (fun h => by rcases h with h | h; exact hX1T h; exact HG1.out h))
      clear ht hT9 hO9 HPU x0 y0
      go_wp2
      go_end0
      have hl9 : (insP L (pid, parent, false, 0)).length = n + 1 := by rw [ins_len, HN.out]
      rw [← HRES.out]
      unfold spawnP
      rw [if_pos HR.out, HI.out]
      dsimp only
      rw [← HPID.out]
      refine ⟨F9.out, rfl, fun b hb => by cases hb; exact K19.out, a', c', ?_, ?_⟩
      · rw [hl9]; exact HT9.out
      · rw [hl9]; exact HO9.out
end Go.Proofs.YtmnbkhmphhgdiaaDoor
