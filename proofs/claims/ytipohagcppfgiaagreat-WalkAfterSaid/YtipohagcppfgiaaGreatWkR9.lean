/- Walk (printed by gen_wkr9.py): the document's After. -/
import Derived.Test.YtipohagcppfgiaaGreatWkR
import Derived.Laws.AppendOwnNone
namespace Go.Proofs.YtipohagcppfgiaaGreat
open Go.RowKit
open Go.Proofs
set_option linter.unusedVariables false
attribute [local go_sem] Oper.semAt_some
/-- What the inner loop has made: what is ahead, and what behind. -/
structure Af (U : World) (j : Jb) (l : List Nd) (va vb : Value) (na nb : Nat) (W : World) : Prop where
 ra : W.ownsRow U.heap.size 42 4 va na (ndcells (aheadJ j l))
 rb : W.ownsRow U.heap.size 42 4 vb nb (ndcells (behindJ j l))
 ap : ∀ k, va.ownBlock = some k → vb.ownBlock ≠ some k
 below : Below U.heap.size U W
 la : na ≤ l.length
 lb : nb ≤ l.length
theorem Af.grow {U W W' : World} {j : Jb} {l : List Nd} {va vb : Value} {na nb : Nat} (h : Af U j l va vb na nb W) (hb : Below W.heap.size W W') : Af U j l va vb na nb W' :=
 ⟨ogr h.ra hb, ogr h.rb hb, h.ap, h.below.trans (hb.mono h.below.size), h.la, h.lb⟩
theorem ndcells_app (l r : List Nd) : ndcells (l ++ r) = ndcells l ++ ndcells r := by unfold ndcells; rw [List.flatMap_append]
theorem Af.appa {U W W' : World} {j : Jb} {l : List Nd} {x : Nd} {va vb v' : Value} {na nb : Nat} (h : Af U j l va vb na nb W) (ho : W'.ownsRow U.heap.size 42 4 v' (na + 1) (ndcells (aheadJ j l) ++ nd4 x)) (hg : W.grownBy W' va.ownBlock) (hm : Moved W va v') (ha : aheadJ j (l ++ [x]) = aheadJ j l ++ [x]) (hb : behindJ j (l ++ [x]) = behindJ j l) : Af U j (l ++ [x]) v' vb (na + 1) nb W' := by
 refine ⟨?_, ?_, ?_, h.below.trans (own_below h.ra hg h.below.size), by rw [List.length_append]; have := h.la; show na + 1 ≤ _ + 1; omega, by rw [List.length_append]; have := h.lb; omega⟩
 ·rw [ha, ndcells_app]; show W'.ownsRow _ _ _ _ _ (_ ++ (nd4 x ++ [])); rw [List.append_nil]; exact ho
 ·rw [hb]
  exact okp h.rb fun k o hk hko => kgr hko hg (fun e => h.ap k e hk)
 ·intro k hk hk'
  exact moved_ne hm (fun e => h.ap k e hk') (own_lt h.rb k hk') hk
theorem Af.appb {U W W' : World} {j : Jb} {l : List Nd} {x : Nd} {va vb v' : Value} {na nb : Nat} (h : Af U j l va vb na nb W) (ho : W'.ownsRow U.heap.size 42 4 v' (nb + 1) (ndcells (behindJ j l) ++ nd4 x)) (hg : W.grownBy W' vb.ownBlock) (hm : Moved W vb v') (ha : aheadJ j (l ++ [x]) = aheadJ j l) (hb : behindJ j (l ++ [x]) = behindJ j l ++ [x]) : Af U j (l ++ [x]) va v' na (nb + 1) W' := by
 refine ⟨?_, ?_, ?_, h.below.trans (own_below h.rb hg h.below.size), by rw [List.length_append]; have := h.la; omega, by rw [List.length_append]; have := h.lb; show nb + 1 ≤ _ + 1; omega⟩
 ·rw [ha]
  exact okp h.ra fun k o hk hko => kgr hko hg (fun e => h.ap k hk e)
 ·rw [hb, ndcells_app]; show W'.ownsRow _ _ _ _ _ (_ ++ (nd4 x ++ [])); rw [List.append_nil]; exact ho
 ·intro k hk hk'
  exact moved_ne hm (fun e => h.ap k hk e) (own_lt h.ra k hk) hk'
theorem Af.skip {U W : World} {j : Jb} {l : List Nd} {x : Nd} {va vb : Value} {na nb : Nat} (h : Af U j l va vb na nb W) (ha : aheadJ j (l ++ [x]) = aheadJ j l) (hb : behindJ j (l ++ [x]) = behindJ j l) : Af U j (l ++ [x]) va vb na nb W :=
 ⟨by rw [ha]; exact h.ra, by rw [hb]; exact h.rb, h.ap, h.below, by rw [List.length_append]; have := h.la; omega, by rw [List.length_append]; have := h.lb; omega⟩
theorem nd_len {l : List Nd} {n : Nat} (h : (ndcells l).length = n * 4) : l.length = n := by
 have : ∀ l : List Nd, (ndcells l).length = 4 * l.length := fun l => by
  induction l with
  | nil => rfl
  | cons x r ih => show (nd4 x ++ ndcells r).length = _; rw [List.length_append, ih, List.length_cons]; show 4 + _ = _; omega
 rw [this] at h; omega
theorem nd_nil {l : List Nd} (h : (ndcells l).length = 0 * 4) : l = [] := List.eq_nil_of_length_eq_zero (nd_len h)
theorem nd_one (l : List Nd) : ∀ u ∈ ndcells l, u.oneCell' = true := by
 intro u hu
 obtain ⟨x, -, hx⟩ := List.mem_flatMap.1 hu
 simp only [nd4, List.mem_cons, List.mem_nil_iff, or_false] at hx
 rcases hx with rfl | rfl | rfl | rfl <;> rfl
/-- A list that the outer loop has made. -/
structure Al (V : World) (X : Nat) (cs : Array Value) (L : List Nd) (n : Nat) (v5 : Value) (W : World) : Prop where
 bx : W.heap[X]? = some (.cells cs 30 (0, 0))
 r5 : W.ownsRow V.heap.size 42 4 v5 n (ndcells L)
 below : Below V.heap.size V W
 len : L.length = n
theorem Al.grow {V W W' : World} {X n : Nat} {cs : Array Value} {L : List Nd} {v5 : Value} (h : Al V X cs L n v5 W) (hb : Below W.heap.size W W') : Al V X cs L n v5 W' := ⟨klD h.bx hb, ogr h.r5 hb, h.below.trans (hb.mono h.below.size), h.len⟩
set_option maxRecDepth 100000 in
set_option maxHeartbeats 16000000 in
theorem rAfter_any (w : Wal) (N : Nat) (xs : List Nd) (wa la ja ka : Option Addr) (wq lc jc kc nj nk : Nat) (V : World) (h : WalL V wa wq la lc ja nj jc ka nk kc w) (hok : okM w.M = true) (hxs : nodesR w.M w.head = some xs) (hi : incr xs = true) (hN : N ≤ nj) (hnj5 : nj ≤ 16) :
  Calls Tryz.prog 9 #[walV wa wq la lc ja nj jc ka nk kc w, .int .i64 N] V (Fresh 42 4 (afterL xs (w.J.take N)).length (ndcells (afterL xs (w.J.take N))) V) := by
 obtain ⟨hd, hhd⟩ := nm (w.head)
 obtain ⟨wl, hwl'⟩ := nm (w.M.W.length)
 obtain ⟨ll, hll'⟩ := nm (w.M.L.length)
 obtain ⟨F, hf⟩ := nm (w.M.F)
 obtain ⟨V1, hV1, hb1, hs1, hl1⟩ := laid V (wal8 wa wl wq la ll lc F hd ja nj jc ka nk kc) 30
 obtain ⟨X, hX⟩ := nm (V.heap.size)
 rw [hX] at hl1
 have HX := hid hl1
 have HB := hid hb1
 have HWL := hid h
 have HXS := hid hxs
 have HIN := hid hi
 have HXL : Hid (xs.length ≤ 1023) := hid (by have := nodesW_len hok (nodesR_some hxs).1; omega)
 have HRN := hid (rNodes_any w.M wa la wq lc w.head V1 (h.mem.grow hb1) hok h.hh h.wok)
 have hjl := h.j.len
 have hNc : N ≤ jc := by have := h.j.1; omega
 have HNJ := hid h.nj
 unfold memV at HRN
 unfold walV
 rw [hwl', hll', hf, hhd] at HRN
 rw [hhd, hwl', hll', hf]
 have x3 : V1.cell? ⟨X, 3, none⟩ = some (.int .u64 hd) := clD (i := 3) hl1 rfl
 clear h hb1 hs1 hl1 hwl' hll' hf hok hxs hi
 go_enter Tryz.func9, Tryz.ntmps9
 go_wp2_with (refine wp_loadP rfl 25 (.tmp 15) rfl X 0 _ [.slice wa wl wq, .slice la ll lc, .bool F] rfl _ HX.out rfl _ Tryz.underlying25 rfl (by kernel_rfl) ?_; intro v hv; subst hv)
 refine HRN.out.mono ?_
 rintro e w3 ⟨v3, b3, rfl, hb3, -, hs3⟩
 obtain ⟨rfl, hrow⟩ := hs3 xs (by rw [← hhd]; exact HXS.out)
 have H3 : Hid (Al V X (wal8 wa wl wq la ll lc F hd ja nj jc ka nk kc) xs xs.length v3 w3) := hid ⟨klD HX.out hb3, own_base hrow HB.out.size, step HB.out hb3, rfl⟩
 obtain ⟨xl, hxl⟩ := nm (xs.length)
 rw [hxl] at H3
 have HXE := hid hxl
 have hxl5 : xl ≤ 1023 := by have := HXL.out; omega
 clear hs3 hrow hb3 HX HB HRN x3 hV1 hX hxl hhd
 have x4 : w3.cell? ⟨X, 4, none⟩ = some (.slice ja nj jc) := clD (i := 4) H3.out.bx rfl
 go_wp2
 clear x4
 go_loopg [5, 27] N (fun g t5 t27 wr => ∃ (k m : Nat) (v5 : Value), g + k = N ∧ t27 = .int .i64 k ∧ v5 = t5 ∧ Hid (Al V X (wal8 wa wl wq la ll lc F hd ja nj jc ka nk kc) (afterL xs (w.J.take k)) m v5 wr))
 case atStart => exact ⟨0, xl, _, rfl, rfl, rfl, hid (by rw [List.take_zero]; exact H3.out)⟩
 case round =>
  clear H3
  obtain ⟨k, m, v5, hk, rfl, rfl, hA⟩ := hrel
  have HK := hid hk
  clear hk
  by_cases hlt : k < N
  ·have tl : decide (((k : Nat) : Int) < ((N : Nat) : Int)) = true := decide_eq_true (by omega)
   obtain ⟨⟨cb, n0, n1, n2, n3⟩, hp⟩ : ∃ x, w.J[k]? = some x := ⟨_, List.getElem?_eq_getElem (by rw [HNJ.out]; omega)⟩
   obtain ⟨jb, jo, rfl, hcc⟩ : ∃ b o, ja = some ⟨b, o, none⟩ ∧ ∀ i v, (jbcells w.J)[i]? = some v → ∀ W, Below V.heap.size V W → W.cell? ⟨b, o + i, none⟩ = some v := by
    obtain ⟨_, _, ⟨q, _⟩ | ⟨b, off, e, h3, h4⟩⟩ := HWL.out.j
    ·omega
    ·exact ⟨b, off, e, fun i v hv W hW => (hW.cell (p := ⟨b, off + i, none⟩) h3).trans (h4 i v hv)⟩
   have hat : ∀ i, i < 5 → (jbcells w.J)[k * 5 + i]? = (jb5 (cb, n0, n1, n2, n3))[i]? := fun i hi => jbcell_at hp i hi
   have HRA : Hid (wr.rangeAt jb (jo + k * 5) [.bool cb, .int .u64 n0, .int .u64 n1, .int .u64 n2, .int .u64 n3]) := hid (fun j v hv => by
    have hj5 : j < 5 := (List.getElem?_eq_some_iff.1 hv).1
    have := hcc (k * 5 + j) v (by rw [hat j hj5]; exact hv) wr hA.out.below
    rw [show jo + k * 5 + j = jo + (k * 5 + j) by omega]
    exact this)
   obtain ⟨L, hL⟩ := nm (afterL xs (w.J.take k))
   have HLI : Hid (incr L = true ∧ L.length ≤ 1039) := hid (by
    have h1 := afterL_len xs (w.J.take k)
    have h2 : (w.J.take k).length ≤ 16 := by rw [List.length_take, HNJ.out]; omega
    have h3 := HXL.out
    rw [hL] at h1
    exact ⟨by rw [← hL]; exact afterL_incr HIN.out _, by omega⟩)
   have HST : Hid (afterL xs (w.J.take (k + 1)) = afterJ L (cb, n0, n1, n2, n3)) := hid (by rw [take_snoc hp, afterL_snoc, hL, afterJ_eq HLI.out.1])
   rw [hL] at hA
   have hml : m ≤ 1039 := by have := HLI.out.2; have := hA.out.len; omega
   obtain ⟨w6, hw6, hb6, hs6, hl6⟩ := laid wr #[.bool false, .int .u64 0, .int .u64 0, .int .u64 0, .int .u64 0] 66
   obtain ⟨B, hB⟩ := nm (wr.heap.size)
   rw [hB] at hl6
   have KB6 := hid hl6
   have HB6 := hid hb6
   clear hcc hat hp hb6 hs6 hl6 hL
   go_upto_region 5 with (first | (refine wpList_load_mid rfl 66 (.tmp 29) rfl jb (jo + k * 5) rfl [.bool cb, .int .u64 n0, .int .u64 n1, .int .u64 n2, .int .u64 n3] _ HRA.out Tryz.underlying66 rfl (by kernel_rfl) ?_) | (refine wsP rfl 66 (.tmp 8) (.tmp 30) rfl B 0 _ [.bool cb, .int .u64 n0, .int .u64 n1, .int .u64 n2, .int .u64 n3].toArray _ rfl rfl _ KB6.out (by kernel_rfl) (Nat.le_of_ble_eq_true rfl) (by kernel_rfl) rfl ?_; intro wB a1 a2 a3 a4; have KB := hid a1; have hbx := a3 _ _ (Nat.le_of_eq hB) HB6.out; have HAB := hid (hA.out.grow hbx); clear a1 a2 a3 a4 hbx KB6 HB6 HRA; (try simp only [Act.put])))
   clear hw6 hB hA
   obtain ⟨la5, lc5, rfl, hll5⟩ := Leads.of_own HAB.out.r5
   have HLB := hid hll5
   have hlen5 := hll5.len
   have HBB := hid (llD KB.out)
   clear hll5
   obtain ⟨G, hG⟩ : ∃ G, G = gk - 1 := ⟨_, rfl⟩
   have HG := hid hG
   clear hG
   have H0 : Hid (Af wB (cb, n0, n1, n2, n3) (L.take 0) (.slice none 0 0) (.slice none 0 0) 0 0 wB) := hid ⟨World.ownsRow_nil _ _ _ _, World.ownsRow_nil _ _ _ _, fun k e => (by cases e), Below.refl _ _, Nat.zero_le _, Nat.zero_le _⟩
   go_wp2
   go_loopg [9, 10, 11, 33] m (fun g t9 t10 t11 t33 wr => ∃ (i na nb : Nat) (va vb : Value), g + i = m ∧ t33 = .int .i64 i ∧ va = t9 ∧ vb = t10 ∧ t11 = .bool (thereJ (cb, n0, n1, n2, n3) (L.take i)) ∧ Hid (Af wB (cb, n0, n1, n2, n3) (L.take i) va vb na nb wr))
   case atStart => exact ⟨0, 0, 0, _, _, rfl, rfl, rfl, rfl, rfl, H0⟩
   case round =>
    clear H0
    obtain ⟨i, na, nb, va, vb, hi, rfl, rfl, rfl, rfl, hF⟩ := hrel
    have HI := hid hi
    clear hi
    by_cases hit : i < m
    ·have ti : decide (((i : Nat) : Int) < ((m : Nat) : Int)) = true := decide_eq_true (by omega)
     obtain ⟨⟨p0, p1, p2, p3⟩, hx⟩ : ∃ x, L[i]? = some x := ⟨_, List.getElem?_eq_getElem (by rw [HAB.out.len]; exact hit)⟩
     obtain ⟨pb, po, rfl, hcc⟩ : ∃ b o, la5 = some ⟨b, o, none⟩ ∧ wr.rangeAt b (o + i * 4) [.int .u64 p0, .int .u64 p1, .int .u64 p2, .int .u64 p3] := by
      obtain ⟨_, _, ⟨q, _⟩ | ⟨b, off, e, h3, h4⟩⟩ := HLB.out.grow hF.out.below
      ·omega
      ·refine ⟨b, off, e, fun j v hv => ?_⟩
       have hj4 : j < 4 := (List.getElem?_eq_some_iff.1 hv).1
       have := h4 (i * 4 + j) v ((flat_at nd4 4 (fun _ => rfl) L i j _ hx hj4).trans hv)
       rwa [← Nat.add_assoc] at this
     have HRN := hid hcc
     have HTK : Hid (L.take (i + 1) = L.take i ++ [(p0, p1, p2, p3)]) := hid (take_snoc hx)
     have hin5 : Hid ((L.take i).length ≤ 1039) := hid (by rw [List.length_take]; omega)
     obtain ⟨w7, hw7, hb7, hs7, hl7⟩ := laid wr #[.int .u64 0, .int .u64 0, .int .u64 0, .int .u64 0] 42
     obtain ⟨Nb, hNb⟩ := nm (wr.heap.size)
     rw [hNb] at hl7
     have KN7 := hid hl7
     have HB7 := hid hb7
     clear hcc hx hb7 hs7 hl7
     go_upto_region 11 with (first | (refine wpList_load_mid rfl 42 (.tmp 35) rfl pb (po + i * 4) rfl [.int .u64 p0, .int .u64 p1, .int .u64 p2, .int .u64 p3] _ HRN.out Tryz.underlying42 rfl (by kernel_rfl) ?_) | (refine wsP rfl 42 (.tmp 13) (.tmp 36) rfl Nb 0 _ [.int .u64 p0, .int .u64 p1, .int .u64 p2, .int .u64 p3].toArray _ rfl rfl _ KN7.out (by kernel_rfl) (Nat.le_of_ble_eq_true rfl) (by kernel_rfl) rfl ?_; intro u8 a1 a2 a3 a4; have KN8 := hid a1; have hbx := a3 _ _ (Nat.le_of_eq hNb) HB7.out; have HA8 := hid (hF.out.grow hbx); clear a1 a2 a3 a4 hbx KN7 HB7 HRN; (try simp only [Act.put])))
     clear hw7 hNb hF
     have KB8 := hid (klD KB.out HA8.out.below)
     have q1 := clD (i := 1) KN8.out rfl
     have q3 := clD (i := 3) KN8.out rfl
     have b0 := clD (i := 0) KB8.out rfl
     have b2 := clD (i := 2) KB8.out rfl
     have b4 := clD (i := 4) KB8.out rfl
     obtain ⟨eh, heh⟩ := nm (decide (p3 = n3))
     obtain ⟨ek, hek⟩ := nm (decide (p1 = n1))
     have teh : (((p3 : Nat) : Int) == ((n3 : Nat) : Int)) = eh := by rw [← heh, Bool.eq_iff_iff]; simp; omega
     have tek : (((p1 : Nat) : Int) == ((n1 : Nat) : Int)) = ek := by rw [← hek, Bool.eq_iff_iff]; simp; omega
     have HEQ : Hid (eqN (p0, p1, p2, p3) (n0, n1, n2, n3) = (eh && ek)) := hid (by unfold eqN; rw [heh, hek])
     have HPA : Hid (aheadJ (cb, n0, n1, n2, n3) (L.take (i + 1)) = aheadJ (cb, n0, n1, n2, n3) (L.take i) ++ (if (if (eh && ek) = true then !cb else aheadN (p0, p1, p2, p3) (n0, n1, n2, n3)) = true then [(p0, p1, p2, p3)] else [])) := hid (by rw [HTK.out, aheadJ_snoc, HEQ.out])
     have HPB : Hid (behindJ (cb, n0, n1, n2, n3) (L.take (i + 1)) = behindJ (cb, n0, n1, n2, n3) (L.take i) ++ (if (if (eh && ek) = true then false else !aheadN (p0, p1, p2, p3) (n0, n1, n2, n3)) = true then [(p0, p1, p2, p3)] else [])) := hid (by rw [HTK.out, behindJ_snoc, HEQ.out])
     have HPT : Hid (thereJ (cb, n0, n1, n2, n3) (L.take (i + 1)) = (thereJ (cb, n0, n1, n2, n3) (L.take i) || (eh && ek))) := hid (by rw [HTK.out, thereJ_snoc, HEQ.out])
     obtain ⟨th, hth⟩ := nm (thereJ (cb, n0, n1, n2, n3) (L.take i))
     rw [hth] at HPT ⊢
     have HAD := hid (Ahead_any p3 p1 n3 n1 u8)
     rw [show (decide (p3 < n3) || (decide (p3 = n3) && decide (p1 < n1))) = aheadN (p0, p1, p2, p3) (n0, n1, n2, n3) from rfl] at HAD
     obtain ⟨ad, had⟩ := nm (aheadN (p0, p1, p2, p3) (n0, n1, n2, n3))
     rw [had] at HAD HPA HPB
     have HRW := hid HTK.out
     clear heh hek HEQ hth had
     have HEND : Hid (∀ (na' nb' : Nat) (va' vb' : Value) (W : World), Af wB (cb, n0, n1, n2, n3) (L.take i ++ [(p0, p1, p2, p3)]) va' vb' na' nb' W → Af wB (cb, n0, n1, n2, n3) (L.take (i + 1)) va' vb' na' nb' W) := hid (fun _ _ _ _ _ h => by rw [HRW.out]; exact h)
     rw [HTK.out] at HPA HPB
     cases eh with
     | false =>
      go_wp2_with fail
      refine HAD.out.mono ?_
      rintro e wq ⟨rfl, hwq⟩
      rw [hwq]
      clear hwq wq HAD
      cases ad with
      | true =>
       obtain ⟨w9, hw9, hb9, hs9, hl9⟩ := laid u8 #[.int .u64 p0, .int .u64 p1, .int .u64 p2, .int .u64 p3] 42
       obtain ⟨Z, hZ⟩ := nm (u8.heap.size)
       rw [hZ] at hl9
       have HLZ := hid hl9
       have HA9 := hid (HA8.out.grow hb9)
       have hsz5 : na ≤ 1039 := by have := HA9.out.la; have := hin5.out; omega
       clear hb9 hs9 hl9 HA8
       go_wp2_with (first
        | (refine wlW rfl 42 (.tmp 13) rfl Nb _ rfl _ KN8.out _ Tryz.underlying42 rfl (by kernel_rfl) ?_; intro v hv; subst hv)
        | ((with_reducible show wpList _ _ _ _ _ _); refine waM elemNd rfl (.tmp 75) (.tmp 77) rfl wB.heap.size va na (ndcells (aheadJ (cb, n0, n1, n2, n3) (L.take i))) rfl HA9.out.ra ⟨Z, 0, none⟩ 1 1 [.int .u64 p0, .int .u64 p1, .int .u64 p2, .int .u64 p3] rfl rfl ?c1 ?c2 ?c3 ?c4 ?c5))
       case c1 => intro j u hj; refine cell_add (o := 0) (by rw [Nat.zero_add]; exact clD HLZ.out (by simpa using hj))
       case c2 => intro u hu; simp only [List.mem_cons, List.mem_nil_iff, or_false] at hu; rcases hu with rfl | rfl | rfl | rfl <;> rfl
       case c3 => omega
       case c4 => exact HA9.out.below.size
       case c5 =>
        intro v' w10 ho hg hmv
        have HA10 := hid (HEND.out _ _ _ _ _ (HA9.out.appa ho hg hmv (HPA.out.trans (by simp)) (HPB.out.trans (by simp))))
        obtain ⟨a9, c9, rfl, -⟩ := Leads.of_own ho
        clear ho hg hmv HA9 HLZ hw9 hZ q1 q3 b0 b2 b4 teh tek
        go_wp2
        go_roundg (gk - 1)
        case measure => have := HI.out; omega
        case rel => exact ⟨i + 1, na + 1, nb, _, _, by have := HI.out; omega, by go_num, rfl, rfl, by rw [HPT.out]; simp, HA10⟩
      | false =>
       obtain ⟨w9, hw9, hb9, hs9, hl9⟩ := laid u8 #[.int .u64 p0, .int .u64 p1, .int .u64 p2, .int .u64 p3] 42
       obtain ⟨Z, hZ⟩ := nm (u8.heap.size)
       rw [hZ] at hl9
       have HLZ := hid hl9
       have HA9 := hid (HA8.out.grow hb9)
       have hsz5 : nb ≤ 1039 := by have := HA9.out.lb; have := hin5.out; omega
       clear hb9 hs9 hl9 HA8
       go_wp2_with (first
        | (refine wlW rfl 42 (.tmp 13) rfl Nb _ rfl _ KN8.out _ Tryz.underlying42 rfl (by kernel_rfl) ?_; intro v hv; subst hv)
        | ((with_reducible show wpList _ _ _ _ _ _); refine waM elemNd rfl (.tmp 37) (.tmp 39) rfl wB.heap.size vb nb (ndcells (behindJ (cb, n0, n1, n2, n3) (L.take i))) rfl HA9.out.rb ⟨Z, 0, none⟩ 1 1 [.int .u64 p0, .int .u64 p1, .int .u64 p2, .int .u64 p3] rfl rfl ?c1 ?c2 ?c3 ?c4 ?c5))
       case c1 => intro j u hj; refine cell_add (o := 0) (by rw [Nat.zero_add]; exact clD HLZ.out (by simpa using hj))
       case c2 => intro u hu; simp only [List.mem_cons, List.mem_nil_iff, or_false] at hu; rcases hu with rfl | rfl | rfl | rfl <;> rfl
       case c3 => omega
       case c4 => exact HA9.out.below.size
       case c5 =>
        intro v' w10 ho hg hmv
        have HA10 := hid (HEND.out _ _ _ _ _ (HA9.out.appb ho hg hmv (HPA.out.trans (by simp)) (HPB.out.trans (by simp))))
        obtain ⟨a9, c9, rfl, -⟩ := Leads.of_own ho
        clear ho hg hmv HA9 HLZ hw9 hZ q1 q3 b0 b2 b4 teh tek
        go_wp2
        go_roundg (gk - 1)
        case measure => have := HI.out; omega
        case rel => exact ⟨i + 1, na, nb + 1, _, _, by have := HI.out; omega, by go_num, rfl, rfl, by rw [HPT.out]; simp, HA10⟩
     | true =>
      cases ek with
      | false =>
       go_wp2_with fail
       refine HAD.out.mono ?_
       rintro e wq ⟨rfl, hwq⟩
       rw [hwq]
       clear hwq wq HAD
       cases ad with
       | true =>
        obtain ⟨w9, hw9, hb9, hs9, hl9⟩ := laid u8 #[.int .u64 p0, .int .u64 p1, .int .u64 p2, .int .u64 p3] 42
        obtain ⟨Z, hZ⟩ := nm (u8.heap.size)
        rw [hZ] at hl9
        have HLZ := hid hl9
        have HA9 := hid (HA8.out.grow hb9)
        have hsz5 : na ≤ 1039 := by have := HA9.out.la; have := hin5.out; omega
        clear hb9 hs9 hl9 HA8
        go_wp2_with (first
         | (refine wlW rfl 42 (.tmp 13) rfl Nb _ rfl _ KN8.out _ Tryz.underlying42 rfl (by kernel_rfl) ?_; intro v hv; subst hv)
         | ((with_reducible show wpList _ _ _ _ _ _); refine waM elemNd rfl (.tmp 75) (.tmp 77) rfl wB.heap.size va na (ndcells (aheadJ (cb, n0, n1, n2, n3) (L.take i))) rfl HA9.out.ra ⟨Z, 0, none⟩ 1 1 [.int .u64 p0, .int .u64 p1, .int .u64 p2, .int .u64 p3] rfl rfl ?c1 ?c2 ?c3 ?c4 ?c5))
        case c1 => intro j u hj; refine cell_add (o := 0) (by rw [Nat.zero_add]; exact clD HLZ.out (by simpa using hj))
        case c2 => intro u hu; simp only [List.mem_cons, List.mem_nil_iff, or_false] at hu; rcases hu with rfl | rfl | rfl | rfl <;> rfl
        case c3 => omega
        case c4 => exact HA9.out.below.size
        case c5 =>
         intro v' w10 ho hg hmv
         have HA10 := hid (HEND.out _ _ _ _ _ (HA9.out.appa ho hg hmv (HPA.out.trans (by simp)) (HPB.out.trans (by simp))))
         obtain ⟨a9, c9, rfl, -⟩ := Leads.of_own ho
         clear ho hg hmv HA9 HLZ hw9 hZ q1 q3 b0 b2 b4 teh tek
         go_wp2
         go_roundg (gk - 1)
         case measure => have := HI.out; omega
         case rel => exact ⟨i + 1, na + 1, nb, _, _, by have := HI.out; omega, by go_num, rfl, rfl, by rw [HPT.out]; simp, HA10⟩
       | false =>
        obtain ⟨w9, hw9, hb9, hs9, hl9⟩ := laid u8 #[.int .u64 p0, .int .u64 p1, .int .u64 p2, .int .u64 p3] 42
        obtain ⟨Z, hZ⟩ := nm (u8.heap.size)
        rw [hZ] at hl9
        have HLZ := hid hl9
        have HA9 := hid (HA8.out.grow hb9)
        have hsz5 : nb ≤ 1039 := by have := HA9.out.lb; have := hin5.out; omega
        clear hb9 hs9 hl9 HA8
        go_wp2_with (first
         | (refine wlW rfl 42 (.tmp 13) rfl Nb _ rfl _ KN8.out _ Tryz.underlying42 rfl (by kernel_rfl) ?_; intro v hv; subst hv)
         | ((with_reducible show wpList _ _ _ _ _ _); refine waM elemNd rfl (.tmp 37) (.tmp 39) rfl wB.heap.size vb nb (ndcells (behindJ (cb, n0, n1, n2, n3) (L.take i))) rfl HA9.out.rb ⟨Z, 0, none⟩ 1 1 [.int .u64 p0, .int .u64 p1, .int .u64 p2, .int .u64 p3] rfl rfl ?c1 ?c2 ?c3 ?c4 ?c5))
        case c1 => intro j u hj; refine cell_add (o := 0) (by rw [Nat.zero_add]; exact clD HLZ.out (by simpa using hj))
        case c2 => intro u hu; simp only [List.mem_cons, List.mem_nil_iff, or_false] at hu; rcases hu with rfl | rfl | rfl | rfl <;> rfl
        case c3 => omega
        case c4 => exact HA9.out.below.size
        case c5 =>
         intro v' w10 ho hg hmv
         have HA10 := hid (HEND.out _ _ _ _ _ (HA9.out.appb ho hg hmv (HPA.out.trans (by simp)) (HPB.out.trans (by simp))))
         obtain ⟨a9, c9, rfl, -⟩ := Leads.of_own ho
         clear ho hg hmv HA9 HLZ hw9 hZ q1 q3 b0 b2 b4 teh tek
         go_wp2
         go_roundg (gk - 1)
         case measure => have := HI.out; omega
         case rel => exact ⟨i + 1, na, nb + 1, _, _, by have := HI.out; omega, by go_num, rfl, rfl, by rw [HPT.out]; simp, HA10⟩
      | true =>
       clear HAD
       cases cb with
       | true =>
        have HA9 := hid (HEND.out _ _ _ _ _ (HA8.out.skip (x := (p0, p1, p2, p3)) (HPA.out.trans (by simp)) (HPB.out.trans (by simp))))
        clear HA8
        go_wp2
        clear q1 q3 b0 b2 b4 teh tek
        go_roundg (gk - 1)
        case measure => have := HI.out; omega
        case rel => exact ⟨i + 1, na, nb, _, _, by have := HI.out; omega, by go_num, rfl, rfl, by rw [HPT.out]; simp, HA9⟩
       | false =>
        obtain ⟨w9, hw9, hb9, hs9, hl9⟩ := laid u8 #[.int .u64 p0, .int .u64 p1, .int .u64 p2, .int .u64 p3] 42
        obtain ⟨Z, hZ⟩ := nm (u8.heap.size)
        rw [hZ] at hl9
        have HLZ := hid hl9
        have HA9 := hid (HA8.out.grow hb9)
        have hsz5 : na ≤ 1039 := by have := HA9.out.la; have := hin5.out; omega
        clear hb9 hs9 hl9 HA8
        go_wp2_with (first
         | (refine wlW rfl 42 (.tmp 13) rfl Nb _ rfl _ KN8.out _ Tryz.underlying42 rfl (by kernel_rfl) ?_; intro v hv; subst hv)
         | ((with_reducible show wpList _ _ _ _ _ _); refine waM elemNd rfl (.tmp 59) (.tmp 61) rfl wB.heap.size va na (ndcells (aheadJ (false, n0, n1, n2, n3) (L.take i))) rfl HA9.out.ra ⟨Z, 0, none⟩ 1 1 [.int .u64 p0, .int .u64 p1, .int .u64 p2, .int .u64 p3] rfl rfl ?c1 ?c2 ?c3 ?c4 ?c5))
        case c1 => intro j u hj; refine cell_add (o := 0) (by rw [Nat.zero_add]; exact clD HLZ.out (by simpa using hj))
        case c2 => intro u hu; simp only [List.mem_cons, List.mem_nil_iff, or_false] at hu; rcases hu with rfl | rfl | rfl | rfl <;> rfl
        case c3 => omega
        case c4 => exact HA9.out.below.size
        case c5 =>
         intro v' w10 ho hg hmv
         have HA10 := hid (HEND.out _ _ _ _ _ (HA9.out.appa ho hg hmv (HPA.out.trans (by simp)) (HPB.out.trans (by simp))))
         obtain ⟨a9, c9, rfl, -⟩ := Leads.of_own ho
         clear ho hg hmv HA9 HLZ hw9 hZ q1 q3 b0 b2 b4 teh tek
         go_wp2
         go_roundg (gk - 1)
         case measure => have := HI.out; omega
         case rel => exact ⟨i + 1, na + 1, nb, _, _, by have := HI.out; omega, by go_num, rfl, rfl, by rw [HPT.out]; simp, HA10⟩
    ·obtain rfl : i = m := by have := HI.out; omega
     have ti : decide (((i : Nat) : Int) < ((i : Nat) : Int)) = false := decide_eq_false (by omega)
     have hLi : L.take i = L := List.take_of_length_le (by rw [HAB.out.len]; exact Nat.le_refl _)
     rw [hLi] at hF ⊢
     obtain ⟨th, hth⟩ := nm (thereJ (cb, n0, n1, n2, n3) L)
     rw [hth]
     have HTH := hid hth
     have KB8 := hid (klD KB.out hF.out.below)
     have b0 := clD (i := 0) KB8.out rfl
     have hlna := hF.out.la
     have hlnb := hF.out.lb
     have HLL2 := HLI.out.2
     have HWB := hid (HAB.out.below.trans (hF.out.below.mono HAB.out.below.size))
     have HBX := hid (klD HAB.out.bx hF.out.below)
     have HSZ := hid HAB.out.below.size
     clear hLi hth
     go_upto_region 18 with (fail)
     go_cut [86] (fun t86 W => t86 = .bool (!th && !cb) ∧ Hid (W = wr))
     case first =>
      cases th with
      | true =>
       go_wp2
       go_meet
       exact ⟨rfl, hid rfl⟩
      | false =>
       cases cb with
       | true =>
        go_wp2
        go_meet
        exact ⟨rfl, hid rfl⟩
       | false =>
        go_wp2
        go_meet
        exact ⟨rfl, hid rfl⟩
     case rest =>
      obtain ⟨rfl, hW⟩ := hcut
      have hW2 := hW.out
      clear hW
      subst hW2
      obtain ⟨bp, hbp⟩ := nm ((!th && !cb))
      have HBP := hid hbp
      rw [hbp]
      have hal := hF.out.ap
      have HSB := hid hF.out.below.size
      clear hbp b0
      go_upto_if 86 with (fail)
      go_cut [9] (fun t9 W => ∃ (A : List Nd) (na2 : Nat) (v9 : Value), v9 = t9 ∧ na2 ≤ na + 1 ∧ Hid (A = aheadJ (cb, n0, n1, n2, n3) L ++ (if th = false ∧ cb = false then [(n0, n1, n2, n3)] else [])) ∧ Hid (W.ownsRow wB.heap.size 42 4 v9 na2 (ndcells A)) ∧ Hid (W.ownsRow wB.heap.size 42 4 vb nb (ndcells (behindJ (cb, n0, n1, n2, n3) L))) ∧ Hid (Below V.heap.size V W) ∧ Hid (W.heap[X]? = some (.cells (wal8 wa wl wq la ll lc F hd (some ⟨jb, jo, none⟩) nj jc ka nk kc) 30 (0, 0))) ∧ Hid (wB.heap.size ≤ W.heap.size))
      case first =>
       cases bp with
       | false =>
        have HNI : Hid (¬ (th = false ∧ cb = false)) := hid (fun e => by have := HBP.out; rw [e.1, e.2] at this; cases this)
        obtain ⟨a2, c2, rfl, -⟩ := Leads.of_own hF.out.ra
        go_wp2
        go_meet
        exact ⟨_, na, _, rfl, by omega, hid rfl, hid (by rw [if_neg HNI.out, List.append_nil]; exact hF.out.ra), hid hF.out.rb, HWB, HBX, HSB⟩
       | true =>
        have HYI : Hid (th = false ∧ cb = false) := hid (by have := HBP.out; revert this; cases th <;> cases cb <;> simp)
        obtain ⟨w9, hw9, hb9, hs9, hl9⟩ := laid wc #[.int .u64 n0, .int .u64 n1, .int .u64 n2, .int .u64 n3] 42
        obtain ⟨Z, hZ⟩ := nm (wc.heap.size)
        rw [hZ] at hl9
        have HLZ := hid hl9
        have HA9 := hid (hF.out.grow hb9)
        have HW9 := hid (HWB.out.trans (hb9.mono HWB.out.size))
        have HX9 := hid (klD HBX.out hb9)
        clear hb9 hs9 hl9 hF HWB HBX
        go_wp2_with (first
         | (refine wp_loadP rfl 42 (.tmp 88) rfl B 1 _ [.int .u64 n0, .int .u64 n1, .int .u64 n2, .int .u64 n3] rfl _ KB8.out rfl _ Tryz.underlying42 rfl (by kernel_rfl) ?_; intro v hv; subst hv)
         | ((with_reducible show wpList _ _ _ _ _ _); refine waM elemNd rfl (.tmp 87) (.tmp 90) rfl wB.heap.size va na (ndcells (aheadJ (cb, n0, n1, n2, n3) L)) rfl HA9.out.ra ⟨Z, 0, none⟩ 1 1 [.int .u64 n0, .int .u64 n1, .int .u64 n2, .int .u64 n3] rfl rfl ?c1 ?c2 ?c3 ?c4 ?c5))
        case c1 => intro j u hj; refine cell_add (o := 0) (by rw [Nat.zero_add]; exact clD HLZ.out (by simpa using hj))
        case c2 => intro u hu; simp only [List.mem_cons, List.mem_nil_iff, or_false] at hu; rcases hu with rfl | rfl | rfl | rfl <;> rfl
        case c3 => omega
        case c4 => exact HA9.out.below.size
        case c5 =>
         intro v' w10 ho hg hmv
         have HP : Hid (w10.ownsRow wB.heap.size 42 4 v' (na + 1) (ndcells (aheadJ (cb, n0, n1, n2, n3) L ++ (if th = false ∧ cb = false then [(n0, n1, n2, n3)] else [])))) := hid (by rw [if_pos HYI.out, ndcells_app]; show w10.ownsRow _ _ _ _ _ (_ ++ (_ ++ [])); rw [List.append_nil]; exact ho)
         have HQ : Hid (w10.ownsRow wB.heap.size 42 4 vb nb (ndcells (behindJ (cb, n0, n1, n2, n3) L))) := hid (okp HA9.out.rb fun k o hk hko => kgr hko hg (fun e => HA9.out.ap k e hk))
         have HWX := hid (HW9.out.trans (own_below (own_base HA9.out.ra HSZ.out) hg HW9.out.size))
         have HBX2 := hid (kgr HX9.out hg (own_ne HA9.out.ra HX9.out (by decide)))
         have HSX : Hid (wB.heap.size ≤ w10.heap.size) := hid (by have := HA9.out.below.size; have := hg.size; omega)
         obtain ⟨a2, c2, rfl, -⟩ := Leads.of_own ho
         clear ho hg hmv HA9 HLZ hw9 hZ HX9 HW9
         go_wp2
         go_meet
         exact ⟨_, na + 1, _, rfl, Nat.le_refl _, hid rfl, HP, HQ, HWX, HBX2, HSX⟩
      case rest =>
       obtain ⟨A, na2, v9, rfl, hna2, hA, hRA, hRB, hWB, hBX, hSB⟩ := hcut
       clear hF HWB HBX HSB KB8
       obtain ⟨a2, c2, rfl, -⟩ := Leads.of_own hRA.out
       rcases hRB.out.2 with ⟨q1, q2⟩ | ⟨gb, capb, curb, hvb, -, hhb, -⟩
       ·subst q1
        obtain rfl : nb = 0 := q2
        have HBN : Hid (behindJ (cb, n0, n1, n2, n3) L = []) := hid (nd_nil hRB.out.1)
        obtain ⟨xi, zi, hxi, -⟩ := elemNd.info
        have HAE : Hid (ndcells (afterL xs (w.J.take (k + 1))) = ndcells A ∧ (afterL xs (w.J.take (k + 1))).length = na2) := hid (by
         have he : afterL xs (w.J.take (k + 1)) = A := by rw [HST.out, hA.out]; unfold afterJ; rw [HBN.out, List.append_nil, HTH.out]
         rw [he]
         exact ⟨rfl, nd_len hRA.out.1⟩)
        clear hRB
        go_wp2_with ((with_reducible show wpList _ _ _ _ _ _); refine wpList_append_own_none rfl (.tmp 92) (.tmp 93) _ rfl wB.heap.size 42 xi 4 elemNd.under hxi (.slice a2 na2 c2) na2 _ rfl hRA.out rfl ?_)
        go_roundg G
        case measure => have := HK.out; have := HG.out; omega
        case rel => exact ⟨k + 1, _, _, by have := HK.out; have := HG.out; omega, by go_num, rfl, hid ⟨hBX.out, by rw [HAE.out.1]; exact own_base hRA.out HSZ.out, hWB.out, HAE.out.2⟩⟩
       ·subst hvb
        have HVB := hid (Leads.of_own1 hRB.out)
        have hvl := HVB.out.len
        have hgb : ∀ j u, (ndcells (behindJ (cb, n0, n1, n2, n3) L))[j]? = some u → wc.cell? ((⟨gb, 0, none⟩ : Addr).add j) = some u := fun j u hj => hRB.out.cells (g := gb) rfl j u hj
        have HGB := hid hgb
        have HNB : Hid ((ndcells (behindJ (cb, n0, n1, n2, n3) L)).length = nb * 4) := hid hRB.out.1
        clear hgb hhb
        go_wp2_with ((with_reducible show wpList _ _ _ _ _ _); refine waM elemNd rfl (.tmp 92) (.tmp 93) rfl wB.heap.size (.slice a2 na2 c2) na2 (ndcells A) rfl hRA.out ⟨gb, 0, none⟩ nb capb (ndcells (behindJ (cb, n0, n1, n2, n3) L)) rfl HNB.out ?d1 ?d2 ?d3 ?d4 ?d5)
        case d1 => intro j u hj; exact HGB.out j u hj
        case d2 => exact nd_one _
        case d3 => omega
        case d4 => exact hSB.out
        case d5 =>
         intro v2 w11 ho2 hg2 hmv2
         have HAE : Hid (ndcells (afterL xs (w.J.take (k + 1))) = ndcells A ++ ndcells (behindJ (cb, n0, n1, n2, n3) L) ∧ (afterL xs (w.J.take (k + 1))).length = na2 + nb) := hid (by
          have he : afterL xs (w.J.take (k + 1)) = A ++ behindJ (cb, n0, n1, n2, n3) L := by rw [HST.out, hA.out]; unfold afterJ; rw [HTH.out]
          rw [he, ndcells_app]
          exact ⟨rfl, by rw [List.length_append, nd_len hRA.out.1, nd_len HNB.out]⟩)
         have HFX : Hid (Al V X (wal8 wa wl wq la ll lc F hd (some ⟨jb, jo, none⟩) nj jc ka nk kc) (afterL xs (w.J.take (k + 1))) (na2 + nb) v2 w11) := hid ⟨kgr hBX.out hg2 (own_ne hRA.out hBX.out (by decide)), by rw [HAE.out.1]; exact own_base ho2 HSZ.out, hWB.out.trans (own_below (own_base hRA.out HSZ.out) hg2 hWB.out.size), HAE.out.2⟩
         obtain ⟨a3, c3, rfl, -⟩ := Leads.of_own ho2
         clear ho2 hg2 hmv2 HGB HVB hRA hRB
         go_wp2
         go_roundg G
         case measure => have := HK.out; have := HG.out; omega
         case rel => exact ⟨k + 1, _, _, by have := HK.out; have := HG.out; omega, by go_num, rfl, HFX⟩
  ·have e := HK.out
   obtain rfl : k = N := by omega
   have tl : decide (((k : Nat) : Int) < ((k : Nat) : Int)) = false := decide_eq_false (by omega)
   go_wp2
   go_ret
   exact ⟨_, rfl, by rw [hA.out.len]; exact hA.out.r5, hA.out.below⟩
end Go.Proofs.YtipohagcppfgiaaGreat
