/- Layer 17, several texts in one. -/
import Derived.Test.YtipohagcppfgiaaGreatLs13
import Derived.Test.YtipohagcppfgiaaGreatLsPlain1
import Derived.Test.YtipohagcppfgiaaGreatLs10
import Derived.Test.YtipohagcppfgiaaGreatLsC
import Derived.Test.YtipohagcppfgiaaGreatMemRefStep
import Derived.Laws.StructEq
import Derived.DeepKeys
import Derived.Lib.SliceRun
import Derived.Deep.RegionLaw
import Derived.Shelf.RegionOpenPlain
import Derived.WalkKit
import Derived.Lib.Walk
import Derived.Lib.AppendZeros
import Derived.Lib.AppendZerosOnto
import Derived.Lib.Overlaps
import Derived.Laws.Externs
import Derived.Laws.IdiomCopy
import Derived.Laws.NewBlocks
import Derived.Shelf.Spec.SlicesInsert
namespace Go.Proofs.YtipohagcppfgiaaGreat
open Go.RowKit
open Go.Proofs
set_option linter.unusedVariables false
attribute [local go_sem] Oper.semAt_some
theorem Tch.drop {R S : Nat} {V W : World} (h : Tch (fun k => k = R ∨ k = S) V W) (hS : V.heap.size ≤ S) : Tch (fun k => k = R) V W :=
 ⟨h.os, h.tape, h.output, h.size, fun k hk hn => h.block k hk (by rintro (e | e) <;> omega)⟩
theorem stepM_load_ok {M : Mem} {q : Nat} (hok : okM M = true) (hW : ∀ x ∈ M.W, x < 18446744073709551616) : okM (stepM M false ((q : Nat) : Int) 0).1 = true ∧ (∀ x ∈ (stepM M false ((q : Nat) : Int) 0).1.W, x < 18446744073709551616) ∧ (stepM M false ((q : Nat) : Int) 0).2.1 < 18446744073709551616 := by
 unfold stepM
 split
 ·refine ⟨hok, hW, ?_⟩
  dsimp only
  rw [List.getD_eq_getElem?_getD]
  cases h : M.W[((q : Nat) : Int).toNat]? with
  | none => simp
  | some x => exact hW x (List.mem_of_getElem? h)
 ·exact ⟨by unfold okM at hok ⊢; exact hok, hW, by show (0 : Nat) < _; decide⟩
theorem cmpS_ok {s : Sk} {n want : Nat} {ph : Int} (hs : s.Ok) (h0 : 0 ≤ ph) (h5 : ph ≤ 5) : (cmpS s n want ph).Ok ∧ 0 ≤ (cmpS s n want ph).ph ∧ (cmpS s n want ph).ph ≤ 5 := by
 unfold cmpS
 split
 ·exact ⟨⟨by dsimp only; decide, hs.hash, hs.key, Nat.mod_lt _ (by decide), hs.node, hs.val⟩, by dsimp only; decide, by dsimp only; decide⟩
 ·split
  ·exact ⟨⟨by dsimp only; decide, hs.hash, hs.key, hs.link, hs.node, hs.val⟩, by dsimp only; decide, by dsimp only; decide⟩
  ·exact ⟨⟨by dsimp only; omega, hs.hash, hs.key, hs.link, hs.node, hs.val⟩, h0, h5⟩
theorem seekE_ok {M : Mem} {s : Sk} (hok : okM M = true) (hW : ∀ x ∈ M.W, x < 18446744073709551616) (hs : s.Ok) (h0 : 0 ≤ s.ph) (h5 : s.ph ≤ 5) : okM (seekE M s).1 = true ∧ (∀ x ∈ (seekE M s).1.W, x < 18446744073709551616) ∧ (seekE M s).2.1.Ok ∧ 0 ≤ (seekE M s).2.1.ph ∧ (seekE M s).2.1.ph ≤ 5 := by
 by_cases h4 : 4 ≤ s.ph
 ·have e : seekE M s = (M, s, false) := by unfold seekE; rw [if_pos h4]
  rw [e]
  exact ⟨hok, hW, hs, h0, h5⟩
 ·obtain ⟨k1, k2, k3⟩ := stepM_load_ok (q := needS s s.ph.toNat) hok hW
  unfold seekE
  rw [if_neg h4]
  refine ⟨k1, k2, ?_⟩
  dsimp only
  split
  ·rcases (show s.ph.toNat = 0 ∨ s.ph.toNat = 1 ∨ s.ph.toNat = 2 ∨ s.ph.toNat = 3 by omega) with e | e | e | e
   ·rw [e]
    rw [e] at k3
    generalize (stepM M false ((needS s 0 : Nat) : Int) 0).2.1 = x at k3 ⊢
    have e0 : thenS s x 0 = ⟨if x = 0 then 4 else 1, s.hash, s.key, s.link, x, s.val, s.found⟩ := rfl
    rw [e0]
    by_cases hx : x = 0
    ·rw [if_pos hx]; exact ⟨⟨by show -9223372036854775808 ≤ (4 : Int) ∧ (4 : Int) ≤ _; decide, hs.hash, hs.key, hs.link, k3, hs.val⟩, by show (0 : Int) ≤ 4; decide, by show (4 : Int) ≤ 5; decide⟩
    ·rw [if_neg hx]; exact ⟨⟨by show -9223372036854775808 ≤ (1 : Int) ∧ (1 : Int) ≤ _; decide, hs.hash, hs.key, hs.link, k3, hs.val⟩, by show (0 : Int) ≤ 1; decide, by show (1 : Int) ≤ 5; decide⟩
   ·rw [e]; exact cmpS_ok hs (by decide) (by decide)
   ·rw [e]; exact cmpS_ok hs (by decide) (by decide)
   ·rw [e]
    rw [e] at k3
    generalize (stepM M false ((needS s 3 : Nat) : Int) 0).2.1 = x at k3 ⊢
    have e0 : thenS s x 3 = ⟨4, s.hash, s.key, s.link, s.node, x, true⟩ := rfl
    rw [e0]
    exact ⟨⟨by show -9223372036854775808 ≤ (4 : Int) ∧ (4 : Int) ≤ _; decide, hs.hash, hs.key, hs.link, hs.node, k3⟩, by show (0 : Int) ≤ 4; decide, by show (4 : Int) ≤ 5; decide⟩
  ·exact ⟨⟨by dsimp only; decide, hs.hash, hs.key, hs.link, hs.node, hs.val⟩, by dsimp only; decide, by dsimp only; decide⟩
theorem nodesP_ok {M : Mem} {head : Nat} (h : (nodesP M head).2 = 0) : okM M = true ∧ nodesR M head = some (nodesP M head).1 := by
 unfold nodesP at h ⊢
 cases hok : okM M with
 | false => rw [hok, if_pos rfl] at h; cases h
 | true =>
  rw [hok, if_neg (by decide)] at h
  rw [if_neg (by decide)]
  cases hn : nodesR M head with
  | none => rw [hn] at h; cases h
  | some xs => exact ⟨rfl, rfl⟩
end Go.Proofs.YtipohagcppfgiaaGreat
namespace Go.Proofs.YtipohagcppfgiaaGreat
open Go.RowKit
open Go.Proofs
set_option linter.unusedVariables false
attribute [local go_sem] Oper.semAt_some
theorem rat_any (p k : Nat) (V : World) (hp : p < 18446744073709551616) (hk : k ≤ 1000) : Calls Tryz.prog 47 #[.int .u64 p, .int .i64 k] V (fun e W => e = .returned (.int .i64 ((posL p k : Nat) : Int)) ∧ W = V) := by
 by_cases h : 4096 < p
 ·have t0 : decide (4096 < ((p : Nat) : Int)) = true := decide_eq_true (by omega)
  have HP : Hid (posL p k = 4096 + k) := hid (by unfold posL; omega)
  clear h
  go_enter Tryz.func47, Tryz.ntmps47
  go_wp2
  go_ret
  exact ⟨reti (by rw [HP.out]; go_num), rfl⟩
 ·have t0 : decide (4096 < ((p : Nat) : Int)) = false := decide_eq_false (by omega)
  have HP : Hid (posL p k = p + k) := hid (by unfold posL; omega)
  have hp6 : ((p : Nat) : Int) ≤ 4096 := by omega
  clear h
  go_enter Tryz.func47, Tryz.ntmps47
  go_wp2
  go_ret
  exact ⟨reti (by rw [HP.out]; go_num), rfl⟩
theorem rlive_any (M : Mem) (wa la : Option Addr) (wc lc q : Nat) (V : World) (h : MemL V wa wc la lc M) (hlen : M.L.length = M.W.length) (hq : q ≤ 1000000) :
  Calls Tryz.prog 46 #[memV wa wc la lc M, .int .i64 q] V (Ret (.bool (liveN M q)) V) := by
 obtain ⟨V1, hV1, hb1, hs1, hl1⟩ := laid V #[.slice wa M.W.length wc, .slice la M.L.length lc, .bool M.F] 25
 obtain ⟨x0, x1, x2⟩ := cells3 hl1
 have HB1 := hid hb1
 have hwl := h.w.len
 have hll := h.l.len
 have hL := h.l.grow hb1
 unfold memV
 rw [hlen] at x1 hV1 hll hL ⊢
 obtain ⟨n, hn⟩ := nm (M.W.length)
 rw [hn] at x0 x1 hV1 hll hwl hL ⊢
 obtain ⟨F, hF⟩ := nm (M.F)
 rw [hF] at hV1 ⊢
 have t0 : decide ((0 : Int) ≤ ((q : Nat) : Int)) = true := decide_eq_true (by omega)
 by_cases hlt : q < n
 ·have t1 : decide (((q : Nat) : Int) < ((n : Nat) : Int)) = true := decide_eq_true (by omega)
  obtain ⟨b, hb⟩ : ∃ b, M.L[q]? = some b := ⟨_, List.getElem?_eq_getElem (by rw [hlen, hn]; exact hlt)⟩
  obtain ⟨bb, oo, rfl, -, hc⟩ := hL.at hlt (bcell_at hb)
  have f1 := hc _ (Below.refl _ _)
  have HE : Hid (liveN M q = b) := hid (by unfold liveN; rw [hb]; rfl)
  clear h hL hb hc hl1 hs1 hb1 hlen hn hF x2
  go_enter Tryz.func46, Tryz.ntmps46
  go_wp2
  go_ret
  exact ⟨retb HE.out.symm, HB1.out⟩
 ·have t1 : decide (((q : Nat) : Int) < ((n : Nat) : Int)) = false := decide_eq_false (by omega)
  have HE : Hid (liveN M q = false) := hid (by unfold liveN; rw [List.getElem?_eq_none (by rw [hlen, hn]; omega)]; rfl)
  clear h hL hl1 hs1 hb1 hlen hn hF x2
  go_enter Tryz.func46, Tryz.ntmps46
  go_wp2
  go_ret
  exact ⟨retb HE.out.symm, HB1.out⟩
def ncells (l : List Nat) : List Value := l.map fun x => .int .i64 ((x : Nat) : Int)
theorem ncell_at {l : List Nat} {k x : Nat} (h : l[k]? = some x) : (ncells l)[k]? = some (.int .i64 x) := by unfold ncells; rw [List.getElem?_map, h]; rfl
theorem ncells_len (l : List Nat) : (ncells l).length = l.length := by simp [ncells]
theorem ncells_app (l r : List Nat) : ncells (l ++ r) = ncells l ++ ncells r := by simp [ncells]
theorem has_any (l : List Nat) (a : Option Addr) (n cap q : Nat) (V : World) (h : Leads V a n cap (ncells l)) (hn : l.length = n) :
  Calls Tryz.prog 48 #[.slice a n cap, .int .i64 q] V (fun e W => e = .returned (.bool (decide (q ∈ l))) ∧ W = V) := by
 have hl := h.len
 have H := hid h
 have HN := hid hn
 clear h hn
 go_enter Tryz.func48, Tryz.ntmps48
 go_wp2
 go_loopg [9] n (fun g i wr => ∃ k : Nat, g + k = n ∧ i = .int .i64 (k : Nat) ∧ Hid (∀ x ∈ l.take k, x ≠ q) ∧ wr = V)
 case atStart => exact ⟨0, rfl, rfl, hid (by simp), rfl⟩
 case round =>
  obtain ⟨k, hk, rfl, hs, hwr⟩ := hrel
  subst hwr
  have HK := hid hk
  clear hk
  by_cases hlt : k < n
  ·obtain ⟨x, hxk⟩ : ∃ x, l[k]? = some x := ⟨_, List.getElem?_eq_getElem (by rw [HN.out]; exact hlt)⟩
   obtain ⟨b, off, rfl, -, hc⟩ := H.out.at hlt (ncell_at hxk)
   have f1 := hc _ (Below.refl _ _)
   have HX := hid hxk
   clear hc hxk
   by_cases he : x = q
   ·subst he
    have HE : Hid (decide (x ∈ l) = true) := hid (decide_eq_true (List.mem_of_getElem? HX.out))
    go_wp2
    go_ret
    exact ⟨retb HE.out.symm, rfl⟩
   ·have t0 : (((x : Nat) : Int) == ((q : Nat) : Int)) = false := by simp; omega
    have HTK : Hid (∀ y ∈ l.take (k + 1), y ≠ q) := hid (by
     rw [take_snoc HX.out]
     intro y hy
     rcases List.mem_append.1 hy with hy | hy
     ·exact hs.out y hy
     ·rw [List.mem_singleton] at hy; subst hy; exact he)
    clear he
    go_wp2
    go_roundg (gk - 1)
    case measure => have := HK.out; omega
    case rel => exact ⟨k + 1, by have := HK.out; omega, by go_num, HTK, rfl⟩
  ·have e := HK.out
   obtain rfl : k = n := by omega
   have HE : Hid (decide (q ∈ l) = false) := hid (decide_eq_false fun hm => by
    have := hs.out
    rw [List.take_of_length_le (by rw [HN.out]; exact Nat.le_refl _)] at this
    exact this q hm rfl)
   clear hs e HK
   go_wp2
   go_ret
   exact ⟨retb HE.out.symm, rfl⟩
theorem Ahead_any (a b c d : Nat) (V : World) : Calls Tryz.prog 35 #[.int .u64 a, .int .u64 b, .int .u64 c, .int .u64 d] V (fun e W => e = .returned (.bool (decide (a < c) || (decide (a = c) && decide (b < d)))) ∧ W = V) := by
 obtain ⟨R, hR⟩ := nm ((decide (a < c) || (decide (a = c) && decide (b < d))))
 rw [hR]
 have HR := hid hR
 clear hR
 go_enter Tryz.func35, Tryz.ntmps35
 by_cases c1 : a < c
 ·have t1 : decide (((a : Nat) : Int) < ((c : Nat) : Int)) = true := decide_eq_true (by omega)
  have HE : Hid (R = true) := hid (by rw [← HR.out]; simp [c1])
  go_wp2
  go_ret
  exact ⟨retb HE.out.symm, rfl⟩
 ·have t1 : decide (((a : Nat) : Int) < ((c : Nat) : Int)) = false := decide_eq_false (by omega)
  by_cases c2 : a = c
  ·have t2 : (((a : Nat) : Int) == ((c : Nat) : Int)) = true := by simp; omega
   by_cases c3 : b < d
   ·have t3 : decide (((b : Nat) : Int) < ((d : Nat) : Int)) = true := decide_eq_true (by omega)
    have HE : Hid (R = true) := hid (by rw [← HR.out]; simp [c2, c3])
    clear c2
    go_wp2
    go_ret
    exact ⟨retb HE.out.symm, rfl⟩
   ·have t3 : decide (((b : Nat) : Int) < ((d : Nat) : Int)) = false := decide_eq_false (by omega)
    have HE : Hid (R = false) := hid (by rw [← HR.out]; simp [c2, c3])
    clear c2
    go_wp2
    go_ret
    exact ⟨retb HE.out.symm, rfl⟩
  ·have t2 : (((a : Nat) : Int) == ((c : Nat) : Int)) = false := by simp; omega
   have HE : Hid (R = false) := hid (by rw [← HR.out]; simp [c1, c2])
   go_wp2
   go_ret
   exact ⟨retb HE.out.symm, rfl⟩
end Go.Proofs.YtipohagcppfgiaaGreat
namespace Go.Proofs.YtipohagcppfgiaaGreat
open Go.RowKit
open Go.Proofs
set_option linter.unusedVariables false
attribute [local go_sem] Oper.semAt_some
theorem elemInts : Elem Tryz.prog 31 3 1 8 := Elem.mk' (z := .int .i64 0) Tryz.underlying31 (by kernel_rfl) rfl (by decide) (by decide)
/-- What the document's walk over nodes has made. -/
structure RNs (V : World) (X : Nat) (cs : Array Value) (met : List Nat) (pre : List Nd) (v6 v7 : Value) (W : World) : Prop where
 bx : W.heap[X]? = some (.cells cs 25 (0, 0))
 r6 : W.ownsRow V.heap.size 42 4 v6 pre.length (ndcells pre)
 r7 : W.ownsRow V.heap.size 3 1 v7 met.length (ncells met)
 below : Below V.heap.size V W
structure RNc (V : World) (X : Nat) (cs : Array Value) where
 w : World
 bx : w.heap[X]? = some (.cells cs 25 (0, 0))
 below : Below V.heap.size V w
section
variable {V W W' : World} {X : Nat} {cs : Array Value} {met : List Nat} {pre : List Nd} {v6 v7 v : Value}
theorem RNs.grow (h : RNs V X cs met pre v6 v7 W) (hb : Below W.heap.size W W') : RNs V X cs met pre v6 v7 W' :=
 ⟨klD h.bx hb, ogr h.r6 hb, ogr h.r7 hb, h.below.trans (hb.mono h.below.size)⟩
theorem RNs.cls (h : RNs V X cs met pre v6 v7 W) : ∃ z : RNc V X cs, W = z.w := ⟨⟨W, h.bx, h.below⟩, rfl⟩
theorem own_ne {e e' : TypeId} {size base n : Nat} {xs : List Value} {cur : Array Value} (h : W.ownsRow base e size v n xs) (hX : W.heap[X]? = some (.cells cur e' (0, 0))) (hne : e ≠ e') : v.ownBlock ≠ some X := by
 intro hk
 obtain ⟨c, hc⟩ := own_type h X hk
 exact tyN hc hX hne rfl
theorem own_own {e e' : TypeId} {size size' base base' n n' : Nat} {xs xs' : List Value} {u : Value} (h : W.ownsRow base e size v n xs) (h' : W.ownsRow base' e' size' u n' xs') (hne : e ≠ e') (hg : W.grownBy W' v.ownBlock) : W'.ownsRow base' e' size' u n' xs' := by
 refine okp h' fun k o hk ho => kgr ho hg fun hv => ?_
 obtain ⟨c, hc⟩ := own_type h k hv
 obtain ⟨c', hc'⟩ := own_type h' k hk
 exact tyN hc hc' hne rfl
theorem RNs.app7 {q : Nat} {v7' : Value} (h : RNs V X cs met pre v6 v7 W) (ho : W'.ownsRow V.heap.size 3 1 v7' (met.length + 1) (ncells met ++ [.int .i64 q])) (hg : W.grownBy W' v7.ownBlock) : RNs V X cs (met ++ [q]) pre v6 v7' W' := by
 refine ⟨kgr h.bx hg (own_ne h.r7 h.bx (by decide)), own_own h.r7 h.r6 (by decide) hg, ?_, h.below.trans (own_below h.r7 hg h.below.size)⟩
 rw [List.length_append, ncells_app]
 exact ho
theorem RNs.app6 {t : Nd} {v6' : Value} (h : RNs V X cs met pre v6 v7 W) (ho : W'.ownsRow V.heap.size 42 4 v6' (pre.length + 1) (ndcells pre ++ nd4 t)) (hg : W.grownBy W' v6.ownBlock) : RNs V X cs met (pre ++ [t]) v6' v7 W' := by
 refine ⟨kgr h.bx hg (own_ne h.r6 h.bx (by decide)), ?_, own_own h.r6 h.r7 (by decide) hg, h.below.trans (own_below h.r6 hg h.below.size)⟩
 rw [List.length_append, ndcells_snoc]
 exact ho
end
def GivesRN (M : Mem) (head : Nat) (V : World) (e : Ending) (W : World) : Prop := ∃ v b, e = .returned (.tuple #[v, .bool b]) ∧ Below V.heap.size V W ∧ (nodesR M head = none → b = false ∧ v = .slice none 0 0) ∧ (∀ xs, nodesR M head = some xs → b = true ∧ W.ownsRow V.heap.size 42 4 v xs.length (ndcells xs))
def endR : Option (List Nd) → Option (List Nd)
 | none => none
 | some xs => if incr xs = true then some xs else none
theorem nodesR_eq (M : Mem) (head : Nat) : nodesR M head = endR (nodesW M head) := by unfold nodesR endR; rfl
theorem endR_bad {M : Mem} {f place : Nat} {met : List Nat} {out : List Nd} (h : incr out = false) : endR (goW M f place met out) = none := by
 cases hg : goW M f place met out with
 | none => rfl
 | some xs =>
  show (if incr xs = true then some xs else none) = none
  have hp := goW_prefix _ _ _ _ _ hg
  cases hi : incr xs with
  | false => rfl
  | true => rw [incr_prefix hp hi] at h; cases h
set_option maxRecDepth 100000 in
set_option maxHeartbeats 8000000 in
theorem rNodes_any (M : Mem) (wa la : Option Addr) (wc lc head : Nat) (V : World) (h : MemL V wa wc la lc M) (hok : okM M = true) (hh : head < 18446744073709551616) (hW : ∀ x ∈ M.W, x < 18446744073709551616) :
  Calls Tryz.prog 26 #[memV wa wc la lc M, .int .u64 head] V (GivesRN M head V) := by
 obtain ⟨hn1, hn4, hmn, -⟩ := okM_spec hok
 obtain ⟨V1, hV1, hb1, hs1, hl1⟩ := laid V #[.slice wa M.W.length wc, .slice la M.L.length lc, .bool M.F] 25
 obtain ⟨X, hX⟩ := nm (V.heap.size)
 rw [hX] at hl1
 have HM := hid h
 have HLI := hid (fun (q : Nat) (W : World) (hb : Below V.heap.size V W) (hq : q ≤ 1000000) => rlive_any M wa la wc lc q W (h.grow hb) hmn hq)
 have hwl := h.w.len
 have hll := h.l.len
 obtain ⟨n, hn⟩ := nm (M.W.length)
 have hm : M.L.length = n := hmn.trans hn
 obtain ⟨F, hF⟩ := nm (M.F)
 unfold memV at HLI ⊢
 rw [hn, hm, hF] at hV1 hl1 HLI
 rw [hn] at hn1 hn4 hwl
 rw [hm] at hll
 rw [hn, hm, hF]
 have HN := hid hn
 have HMM := hid hm
 have HW := hid hW
 obtain ⟨bw, ow, rfl⟩ : ∃ b o, wa = some ⟨b, o, none⟩ := by
  obtain ⟨_, _, ⟨q, _⟩ | ⟨b', o', q, _⟩⟩ := h.w
  ·omega
  ·exact ⟨b', o', q⟩
 have HRN1 : Hid (RNs V X #[.slice (some ⟨bw, ow, none⟩) n wc, .slice la n lc, .bool F] [] [] (.slice none 0 0) (.slice none 0 0) V1) := hid ⟨hl1, World.ownsRow_nil _ _ _ _, World.ownsRow_nil _ _ _ _, hb1⟩
 have HAT := hid (fun (p k : Nat) (W : World) (hp : p < 18446744073709551616) (hk : k ≤ 1000) => rat_any p k W hp hk)
 have HWD : Hid (∀ p k, liveN M (posL p k) = true → posL p k < n ∧ ∀ w', Below V.heap.size V w' → w'.cell? ⟨bw, ow + posL p k, none⟩ = some (.int .u64 ((wAt M p k : Nat) : Int))) := hid (fun p k hl => by
  have hw := w_ex hn hm hl
  have hlt := (List.getElem?_eq_some_iff.1 hw).1
  obtain ⟨b, off, e, -, hc⟩ := h.w.at hlt (wcell_at hw)
  cases e
  exact ⟨by rw [← hn]; exact hlt, hc⟩)
 haveI : Nonempty (RNc V X #[.slice (some ⟨bw, ow, none⟩) n wc, .slice la n lc, .bool F]) := HRN1.out.cls.elim fun z _ => ⟨z⟩
 have r0 : ∀ z : RNc V X #[.slice (some ⟨bw, ow, none⟩) n wc, .slice la n lc, .bool F], z.w.cell? ⟨X, 0, none⟩ = some (.slice (some ⟨bw, ow, none⟩) n wc) := fun z => clD z.bx rfl
 have r1 : ∀ z : RNc V X #[.slice (some ⟨bw, ow, none⟩) n wc, .slice la n lc, .bool F], z.w.cell? ⟨X, 1, none⟩ = some (.slice la n lc) := fun z => clD z.bx rfl
 have r2 : ∀ z : RNc V X #[.slice (some ⟨bw, ow, none⟩) n wc, .slice la n lc, .bool F], z.w.cell? ⟨X, 2, none⟩ = some (.bool F) := fun z => clD z.bx rfl
 clear h hok hn hm hF hmn hb1 hs1 hl1 hW
 obtain ⟨RES, hRES⟩ := nm (nodesR M head)
 have HGW : Hid (∀ v b W, Below V.heap.size V W → (RES = none → b = false ∧ v = .slice none 0 0) → (∀ xs, RES = some xs → b = true ∧ W.ownsRow V.heap.size 42 4 v xs.length (ndcells xs)) → GivesRN M head V (.returned (.tuple #[v, .bool b])) W) := hid (fun v b W h1 h2 h3 => ⟨v, b, rfl, h1, by rw [hRES]; exact h2, by rw [hRES]; exact h3⟩)
 have HNONE : Hid (∀ W, Below V.heap.size V W → RES = none → GivesRN M head V (.returned (.tuple #[.slice none 0 0, .bool false])) W) := hid (fun W hb e => HGW.out _ _ W hb (fun _ => ⟨rfl, rfl⟩) (fun xs h => by rw [e] at h; cases h))
 obtain ⟨P0, hP0⟩ := nm (posL head 0)
 have HP0 := hid hP0
 have hp04 : P0 ≤ 4096 := by rw [← hP0]; unfold posL; omega
 obtain ⟨L0, hL0⟩ := nm (liveN M P0)
 have HL0 := hid hL0
 have hRES0 : L0 = false → RES = none := fun e => by
  rw [← hRES]
  unfold nodesR
  rw [nodesW_none (by unfold takeP freeB; rw [hP0, hL0, e]; rfl)]
 have hRES1 : L0 = true → endR (goW M 4101 (wAt M head 0) [P0] []) = RES := fun e => by
  rw [← hRES, nodesR_eq]
  rw [nodesW_some (m0 := [P0]) (by unfold takeP freeB; rw [hP0, hL0, e, if_pos (by simp)]; rfl)]
 have HRES0 := hid hRES0
 have HRES1 := hid hRES1
 clear hRES hP0 hL0 hRES0 hRES1
 go_enter Tryz.func26, Tryz.ntmps26
 go_upto_region 1 with (fail)
 have HX := hid hX
 clear hX
 have HRD := hid (HRN1.out.grow (Below.refl _ _).drew)
 obtain ⟨D, hD⟩ := nm ((V1).drew)
 rw [hD] at HRD
 have HD := hid hD
 clear hD
 refine rgm2 (fun W => ∃ z : RNc V X #[.slice (some ⟨bw, ow, none⟩) n wc, .slice la n lc, .bool F], W = z.w) 5 (.q 0 (.q 1 (.h 2 (.h 3 (.q 4 .done))))) (by kernel_rfl) (by kernel_rfl) (by rw [HD.out]; exact HRD.out.cls) ?_
 rw [HD.out]
 repeat (refine m2q rfl rfl ?_; go_big_quiet_step (fail); refine wpQuiet_nil ?_)
 refine m2h rfl fun R' hR' hO => ?_
 go_wp2_with fail
 refine (HAT.out head 0 D hh (by decide)).mono ?_
 rintro e wq ⟨rfl, hwq⟩
 rw [hwq]
 clear hwq wq
 rw [HP0.out]
 go_wp2
 refine hR' _ _ HRD.out.cls ?_
 clear hR' hO R'
 refine m2h rfl fun R' hR' hO => ?_
 go_wp2_with fail
 refine (HLI.out P0 D HRD.out.below (by omega)).mono ?_
 rw [HL0.out]
 rintro e w3 ⟨rfl, hb3⟩
 have HR3 := hid (HRD.out.grow hb3)
 clear hb3
 go_wp2
 refine hR' _ _ HR3.out.cls ?_
 clear hR' hO R'
 repeat (refine m2q rfl rfl ?_; go_big_quiet_step (fail); refine wpQuiet_nil ?_)
 refine m2d ?_
 simp only [List.drop_succ_cons, List.drop_nil]
 have HD1 := HD
 clear HD HRD
 cases L0 with
 | false =>
  go_wp2
  go_ret2
  exact HNONE.out _ HR3.out.below (HRES0.out (by simp))
 | true =>
  have HRES := hid (HRES1.out (by simp))
  obtain ⟨hP0n, hc0⟩ := HWD.out head 0 (by rw [HP0.out]; exact HL0.out)
  rw [HP0.out] at hP0n hc0
  obtain ⟨A0, hA0⟩ := nm (wAt M head 0)
  rw [hA0] at hc0 HRES
  have hA0l : A0 < 18446744073709551616 := by rw [← hA0]; exact wAt_lt HW.out _ _
  have q0 : ∀ z : RNc V X #[.slice (some ⟨bw, ow, none⟩) n wc, .slice la n lc, .bool F], z.w.cell? ⟨bw, ow + P0, none⟩ = some (.int .u64 A0) := fun z => hc0 z.w z.below
  clear hA0 hc0 HRES0 HRES1
  go_wp2_with fail
  refine (HAT.out head 0 w3 hh (by decide)).mono ?_
  rintro e wq ⟨rfl, hwq⟩
  rw [hwq]
  clear hwq wq
  rw [HP0.out]
  obtain ⟨w5, hw5, hb5, hs5, hl5⟩ := laid w3 #[.int .i64 P0] 3
  obtain ⟨Y, hY⟩ := nm (w3.heap.size)
  rw [hY] at hl5
  have HR5 : Hid (RNs V X #[.slice (some ⟨bw, ow, none⟩) n wc, .slice la n lc, .bool F] [P0] [] (.slice none 0 0) (.slice (some ⟨Y, 0, none⟩) 1 1) w5) := hid ⟨klD HR3.out.bx hb5, World.ownsRow_nil _ _ _ _, row_new hl5 rfl (by decide) (by rw [← hY]; exact HR3.out.below.size), HR3.out.below.trans (hb5.mono HR3.out.below.size)⟩
  clear hb5 hs5 hl5
  go_upto_region 5 with (fail)
  have HRD := hid (HR5.out.grow (Below.refl _ _).drew)
  obtain ⟨D, hD⟩ := nm ((w5).drew)
  rw [hD] at HRD
  have HD := hid hD
  clear hD
  refine rgm2 (fun W => ∃ z : RNc V X #[.slice (some ⟨bw, ow, none⟩) n wc, .slice la n lc, .bool F], W = z.w) 7 (.q 0 (.q 1 (.q 2 (.h 3 (.q 4 (.q 5 (.q 6 .done))))))) (by kernel_rfl) (by kernel_rfl) (by rw [HD.out]; exact HRD.out.cls) ?_
  rw [HD.out]
  repeat (refine m2q rfl rfl ?_; go_big_quiet_step (fail); refine wpQuiet_nil ?_)
  refine m2h rfl fun R' hR' hO => ?_
  go_wp2_with fail
  refine (HAT.out head 0 D hh (by decide)).mono ?_
  rintro e wq ⟨rfl, hwq⟩
  rw [hwq]
  clear hwq wq
  rw [HP0.out]
  go_wp2
  refine hR' _ _ HRD.out.cls ?_
  clear hR' hO R'
  repeat (refine m2q rfl rfl ?_; go_big_quiet_step (fail); refine wpQuiet_nil ?_)
  refine m2d ?_
  simp only [List.drop_succ_cons, List.drop_nil]
  clear HR3 HR5 HD1
  go_wp2
  go_loopg [6, 7, 8] 4101 (fun f t6 t7 t8 wr => ∃ (place : Nat) (met : List Nat) (pre : List Nd) (v6 v7 : Value), t6 = v6 ∧ t7 = v7 ∧ t8 = .int .u64 place ∧ place < 18446744073709551616 ∧ Hid (RNs V X #[.slice (some ⟨bw, ow, none⟩) n wc, .slice la n lc, .bool F] met pre v6 v7 wr) ∧ Hid (endR (goW M f place met pre) = RES) ∧ Hid (met.Nodup ∧ ∀ x ∈ met, x < n) ∧ Hid (4101 ≤ f + met.length) ∧ Hid (4 * pre.length + 1 ≤ met.length) ∧ Hid (incr pre = true))
  case atStart => exact ⟨A0, [P0], [], _, _, rfl, rfl, rfl, hA0l, HRD, HRES, hid ⟨by simp, by simp; exact hP0n⟩, hid (by simp), hid (by simp), hid rfl⟩
  case round =>
   clear q0 HRES HRD HD
   obtain ⟨place, met, pre, v6, v7, rfl, rfl, rfl, hpl, hR, hRE, hmet, hf, hpre, hinc⟩ := hrel
   have hlen := nodup_lt hmet.out.1 hmet.out.2
   obtain ⟨f1, hf1⟩ : ∃ f1, gk = f1 + 1 := ⟨gk - 1, by have := hf.out; omega⟩
   have HF1 := hid hf1
   have HLEN := hid hlen
   obtain ⟨a6, c6, e6, -⟩ := Leads.of_own hR.out.r6
   obtain ⟨a7, c7, e7, -⟩ := Leads.of_own hR.out.r7
   obtain ⟨n6, hn6⟩ := nm (pre.length)
   rw [hn6] at e6
   obtain ⟨n7, hn7⟩ := nm (met.length)
   rw [hn7] at e7
   have HN6 := hid hn6
   have HN7 := hid hn7
   subst e6
   subst e7
   clear hf1 hlen hn6 hn7
   by_cases h0 : place = 0
   ·subst h0
    have HR3 : Hid (some pre = RES) := hid (by rw [← hRE.out, HF1.out, goW_zero]; show some pre = (if incr pre = true then some pre else none); rw [if_pos hinc.out])
    go_wp2
    go_ret2
    refine HGW.out _ _ _ hR.out.below ?_ ?_
    ·intro hx; rw [← HR3.out] at hx; cases hx
    ·intro xs hx
     rw [← HR3.out] at hx
     cases hx
     exact ⟨rfl, hR.out.r6⟩
   ·have t0 : (((place : Nat) : Int) != 0) = true := by simp; omega
    have HP0n := hid h0
    obtain ⟨RT, hRT⟩ := nm (takeP M place (List.range 4) met)
    have HRT := hid hRT
    have HRT4 : Hid (takeP M place (List.range' 0 4) met = RT) := hid (by rw [← List.range_eq_range']; exact hRT)
    have HNN : Hid (∀ W : World, Below V.heap.size V W → RT = none → GivesRN M head V (.returned (.tuple #[.slice none 0 0, .bool false])) W) := hid (fun W hb e => HNONE.out W hb (by rw [← hRE.out, HF1.out, goW_none h0 (hRT.trans e)]; rfl))
    clear h0 hRT
    obtain ⟨G, hG⟩ : ∃ G, G = gk - 1 := ⟨_, rfl⟩
    have HG := hid hG
    clear hG
    go_wp2
    go_loopg [28, 7] 4 (fun g t28 t7 wr => ∃ (k : Nat) (met2 : List Nat) (v7 : Value), g + k = 4 ∧ t28 = .int .i64 k ∧ t7 = v7 ∧ Hid (RNs V X #[.slice (some ⟨bw, ow, none⟩) n wc, .slice la n lc, .bool F] met2 pre (.slice a6 n6 c6) v7 wr) ∧ Hid (takeP M place (List.range' k g) met2 = RT) ∧ Hid (met2.length = met.length + k))
    case atStart => exact ⟨0, met, _, rfl, rfl, rfl, hR, HRT4, hid rfl⟩
    case round =>
     obtain ⟨k, met2, v7, hk, rfl, rfl, hR2, hTK, hml⟩ := hrel
     obtain ⟨b7, d7, e7, -⟩ := Leads.of_own hR2.out.r7
     obtain ⟨m7, hm7⟩ := nm (met2.length)
     rw [hm7] at e7
     have HM7 := hid hm7
     subst e7
     have hm75 : m7 ≤ 5000 := by have := hml.out; have := HLEN.out; omega
     have HK := hid hk
     clear hm7 hk
     by_cases hlt : k < 4
     ·obtain ⟨g1, hg1⟩ : ∃ g1, gk = g1 + 1 := ⟨gk - 1, by have := HK.out; omega⟩
      have hT2 := hTK.out
      rw [hg1, List.range'_succ] at hT2
      unfold takeP at hT2
      have HG1 := hid hg1
      obtain ⟨P, hP⟩ := nm (posL place k)
      have HPP := hid hP
      have hp46 : P ≤ 1000000 := by rw [← hP]; unfold posL; omega
      rw [hP] at hT2
      have HT2 := hid hT2
      clear hT2 hg1 hTK hP
      obtain ⟨L, hL⟩ := nm (liveN M P)
      obtain ⟨B, hB⟩ := nm (decide (P ∈ met2))
      have HL := hid hL
      have HBB := hid hB
      have HHA := hid (fun W (hr : RNs V X #[.slice (some ⟨bw, ow, none⟩) n wc, .slice la n lc, .bool F] met2 pre (.slice a6 n6 c6) (.slice b7 m7 d7) W) => has_any met2 b7 m7 d7 P W (by have := Leads.of_own hr.r7; obtain ⟨a', c', e, hl⟩ := this; cases e; rw [HM7.out] at hl; exact hl) HM7.out)
      rw [hB] at HHA
      have HBAD : Hid ((L && !B) = false → RT = none) := hid (fun e => by have := HT2.out; unfold freeB at this; rw [hL, hB, if_neg (by rw [e]; decide)] at this; exact this.symm)
      have HGOOD : Hid ((L && !B) = true → takeP M place (List.range' (k + 1) g1) (met2 ++ [P]) = RT) := hid (fun e => by have := HT2.out; unfold freeB at this; rw [hL, hB, if_pos e] at this; exact this)
      clear hL hB HT2
      go_upto_region 10 with (fail)
      have HRD := hid (hR2.out.grow (Below.refl _ _).drew)
      obtain ⟨D, hD⟩ := nm ((wr).drew)
      rw [hD] at HRD
      have HD := hid hD
      clear hD
      refine rgm2 (fun W => ∃ z : RNc V X #[.slice (some ⟨bw, ow, none⟩) n wc, .slice la n lc, .bool F], W = z.w) 13 (.q 0 (.q 1 (.q 2 (.h 3 (.h 4 (.q 5 (.q 6 (.q 7 (.q 8 (.q 9 (.h 10 (.h 11 (.q 12 .done))))))))))))) (by kernel_rfl) (by kernel_rfl) (by rw [HD.out]; exact HRD.out.cls) ?_
      rw [HD.out]
      repeat (refine m2q rfl rfl ?_; go_big_quiet_step (fail); refine wpQuiet_nil ?_)
      refine m2h rfl fun R' hR' hO => ?_
      go_wp2_with fail
      refine (HAT.out place k D hpl (by omega)).mono ?_
      rintro e wq ⟨rfl, hwq⟩
      rw [hwq]
      clear hwq wq
      rw [HPP.out]
      go_wp2
      refine hR' _ _ HRD.out.cls ?_
      clear hR' hO R'
      refine m2h rfl fun R' hR' hO => ?_
      go_wp2_with fail
      refine (HLI.out P D HRD.out.below (by omega)).mono ?_
      rw [HL.out]
      rintro e w3 ⟨rfl, hb3⟩
      have HR3 := hid (HRD.out.grow hb3)
      clear hb3
      go_wp2
      refine hR' _ _ HR3.out.cls ?_
      clear hR' hO R'
      cases L with
      | false =>
       repeat (refine m2q rfl rfl ?_; go_big_quiet_step (fail); refine wpQuiet_nil ?_)
       refine m2h rfl fun R' hR' hO => ?_
       go_wp2
       refine hR' _ _ HR3.out.cls ?_
       clear hR' hO R'
       refine m2h rfl fun R' hR' hO => ?_
       go_wp2
       refine hR' _ _ HR3.out.cls ?_
       clear hR' hO R'
       repeat (refine m2q rfl rfl ?_; go_big_quiet_step (fail); refine wpQuiet_nil ?_)
       refine m2d ?_
       simp only [List.drop_succ_cons, List.drop_nil]
       go_wp2
       go_ret2
       exact HNN.out _ HR3.out.below (HBAD.out (by simp))
      | true =>
       repeat (refine m2q rfl rfl ?_; go_big_quiet_step (fail); refine wpQuiet_nil ?_)
       refine m2h rfl fun R' hR' hO => ?_
       go_wp2_with fail
       refine (HAT.out place k w3 hpl (by omega)).mono ?_
       rintro e wq ⟨rfl, hwq⟩
       rw [hwq]
       clear hwq wq
       rw [HPP.out]
       go_wp2
       refine hR' _ _ HR3.out.cls ?_
       clear hR' hO R'
       refine m2h rfl fun R' hR' hO => ?_
       go_wp2_with fail
       refine (HHA.out w3 HR3.out).mono ?_
       rintro e w4 ⟨rfl, hw4⟩
       rw [hw4]
       clear hw4 w4
       go_wp2
       refine hR' _ _ HR3.out.cls ?_
       clear hR' hO R'
       repeat (refine m2q rfl rfl ?_; go_big_quiet_step (fail); refine wpQuiet_nil ?_)
       refine m2d ?_
       simp only [List.drop_succ_cons, List.drop_nil]
       cases B with
       | true =>
        go_wp2
        go_ret2
        exact HNN.out _ HR3.out.below (HBAD.out (by simp))
       | false =>
        have HRN := hid (HGOOD.out (by simp))
        clear HGOOD HBAD
        go_wp2_with fail
        refine (HAT.out place k w3 hpl (by omega)).mono ?_
        rintro e wq ⟨rfl, hwq⟩
        rw [hwq]
        clear hwq wq
        rw [HPP.out]
        obtain ⟨w5, hw5, hb5, hs5, hl5⟩ := laid w3 #[.int .i64 P] 3
        obtain ⟨Y, hY⟩ := nm (w3.heap.size)
        rw [hY] at hl5
        have HL5 := hid hl5
        have HR5 := hid (HR3.out.grow hb5)
        have HOW7 : Hid (w5.ownsRow V.heap.size 3 1 (.slice b7 m7 d7) m7 (ncells met2)) := hid (by have := HR5.out.r7; rw [HM7.out] at this; exact this)
        clear hb5 hs5 hl5
        go_wp2_with ((with_reducible show wpList _ _ _ _ _ _); refine waM elemInts rfl (.tmp 44) (.tmp 48) rfl V.heap.size (.slice b7 m7 d7) m7 (ncells met2) rfl HOW7.out ⟨Y, 0, none⟩ 1 1 [.int .i64 P] rfl rfl ?c1 ?c2 ?c3 ?c4 ?c5)
        case c1 => intro j u hj; refine cell_add (o := 0) (by rw [Nat.zero_add]; exact clD HL5.out (by simpa using hj))
        case c2 => first | (intro u hu; simp at hu; subst hu; rfl) | omega
        try (case c3 => omega)
        try (case c4 => exact HR5.out.below.size)
        case c5 =>
         intro v7' w6 ho hg hmv
         have HR6 := hid (HR5.out.app7 (q := P) (v7' := v7') (by rw [HM7.out]; exact ho) hg)
         obtain ⟨x7, y7, e7, -⟩ := Leads.of_own ho
         subst e7
         clear ho hg hmv
         go_wp2
         go_roundg (gk - 1)
         case measure => have := HK.out; omega
         case rel => exact ⟨k + 1, met2 ++ [P], _, by have := HK.out; omega, by go_num, rfl, HR6, hid (by rw [show gk - 1 = g1 by have := HG1.out; omega]; exact HRN.out), hid (by rw [List.length_append, hml.out]; simp; omega)⟩
     ·have e4 : k = 4 := by have := HK.out; omega
      have e0 : gk = 0 := by have := HK.out; omega
      subst e4
      have hsome : RT = some met2 := by have := hTK.out; rw [e0] at this; exact this.symm
      have htk := HRT.out.trans hsome
      obtain ⟨s1, s2, s3, s4⟩ := takeP_spec M place _ _ _ htk
      have HMN := hid (show met2.Nodup ∧ ∀ x ∈ met2, x < n from ⟨s2 hmet.out.1, fun x hx => (s4 x hx).elim (fun h => hmet.out.2 x h) (fun h => by have := live_lt h; rwa [HMM.out] at this)⟩)
      obtain ⟨hq0, hcell0⟩ := HWD.out place 0 (s1 0 (by decide))
      obtain ⟨U0, hU0⟩ := nm (posL place 0)
      have HU0 := hid hU0
      rw [hU0] at hq0 hcell0
      obtain ⟨B0, hB0⟩ := nm (wAt M place 0)
      rw [hB0] at hcell0
      have q0 : ∀ z : RNc V X #[.slice (some ⟨bw, ow, none⟩) n wc, .slice la n lc, .bool F], z.w.cell? ⟨bw, ow + U0, none⟩ = some (.int .u64 B0) := fun z => hcell0 z.w z.below
      obtain ⟨hq1, hcell1⟩ := HWD.out place 1 (s1 1 (by decide))
      obtain ⟨U1, hU1⟩ := nm (posL place 1)
      have HU1 := hid hU1
      rw [hU1] at hq1 hcell1
      obtain ⟨B1, hB1⟩ := nm (wAt M place 1)
      rw [hB1] at hcell1
      have q1 : ∀ z : RNc V X #[.slice (some ⟨bw, ow, none⟩) n wc, .slice la n lc, .bool F], z.w.cell? ⟨bw, ow + U1, none⟩ = some (.int .u64 B1) := fun z => hcell1 z.w z.below
      obtain ⟨hq2, hcell2⟩ := HWD.out place 2 (s1 2 (by decide))
      obtain ⟨U2, hU2⟩ := nm (posL place 2)
      have HU2 := hid hU2
      rw [hU2] at hq2 hcell2
      obtain ⟨B2, hB2⟩ := nm (wAt M place 2)
      rw [hB2] at hcell2
      have q2 : ∀ z : RNc V X #[.slice (some ⟨bw, ow, none⟩) n wc, .slice la n lc, .bool F], z.w.cell? ⟨bw, ow + U2, none⟩ = some (.int .u64 B2) := fun z => hcell2 z.w z.below
      obtain ⟨hq3, hcell3⟩ := HWD.out place 3 (s1 3 (by decide))
      obtain ⟨U3, hU3⟩ := nm (posL place 3)
      have HU3 := hid hU3
      rw [hU3] at hq3 hcell3
      obtain ⟨B3, hB3⟩ := nm (wAt M place 3)
      rw [hB3] at hcell3
      have q3 : ∀ z : RNc V X #[.slice (some ⟨bw, ow, none⟩) n wc, .slice la n lc, .bool F], z.w.cell? ⟨bw, ow + U3, none⟩ = some (.int .u64 B3) := fun z => hcell3 z.w z.below
      have hB2l : B2 < 18446744073709551616 := by rw [← hB2]; exact wAt_lt HW.out _ _
      have HRE2 : Hid (endR (goW M f1 B2 met2 (pre ++ [(place, B0, B1, B3)])) = RES) := hid (by rw [← hRE.out, HF1.out, goW_some HP0n.out htk]; unfold ndAt; rw [hB0, hB1, hB2, hB3])
      clear e0 hsome htk s1 s2 s3 s4 hU0 hU1 hU2 hU3 hB0 hB1 hB2 hB3 hcell0 hcell1 hcell2 hcell3 hTK hlt HNN HRT HRT4
      go_upto_region 14 with (fail)
      have HRD := hid (hR2.out.grow (Below.refl _ _).drew)
      obtain ⟨D, hD⟩ := nm ((wr).drew)
      rw [hD] at HRD
      have HD := hid hD
      clear hD
      go_cut [10] (fun t10 W => ∃ Y : Nat, t10 = .pointer (some ⟨Y, 0, none⟩) ∧ Hid (RNs V X #[.slice (some ⟨bw, ow, none⟩) n wc, .slice la n lc, .bool F] met2 pre (.slice a6 n6 c6) (.slice b7 m7 d7) W ∧ W.heap[Y]? = some (.cells #[.int .u64 place, .int .u64 B0, .int .u64 B1, .int .u64 B3] 42 (0, 0))))
      case first =>
       refine rgm2 (fun W => ∃ z : RNc V X #[.slice (some ⟨bw, ow, none⟩) n wc, .slice la n lc, .bool F], W = z.w) 22 (.q 0 (.q 1 (.q 2 (.q 3 (.q 7 (.q 8 (.q 9 (.q 13 (.q 14 (.q 15 (.h2 4 (.q 5 (.q 6 (.h2 10 (.q 11 (.q 12 (.h2 16 (.q 17 (.q 18 (.q 19 (.h 20 (.h 21 .done))))) 20 (.h 16 (.q 17 (.q 18 (.q 19 (.h 21 .done)))))))) 20 (.h 10 (.q 11 (.q 12 (.h 16 (.q 17 (.q 18 (.q 19 (.h 21 .done))))))))))) 20 (.h 4 (.q 5 (.q 6 (.h 10 (.q 11 (.q 12 (.h 16 (.q 17 (.q 18 (.q 19 (.h 21 .done)))))))))))))))))))))) (by kernel_rfl) (by kernel_rfl) (by rw [HD.out]; exact HRD.out.cls) ?_
       rw [HD.out]
       repeat (refine m2q rfl rfl ?_; go_big_quiet_step (fail); refine wpQuiet_nil ?_)
       refine wpMix2_h2 ?_ ?_
       ·skip
        refine m2h rfl fun R' hR' hO => ?_
        go_wp2_with fail
        refine (HAT.out place 0 D hpl (by decide)).mono ?_
        rintro e wq ⟨rfl, hwq⟩
        rw [hwq]
        clear hwq wq
        rw [HU0.out]
        go_wp2
        refine hR' _ _ HRD.out.cls ?_
        clear hR' hO R'
        repeat (refine m2q rfl rfl ?_; go_big_quiet_step (fail); refine wpQuiet_nil ?_)
        refine wpMix2_h2 ?_ ?_
        ·skip
         refine m2h rfl fun R' hR' hO => ?_
         go_wp2_with fail
         refine (HAT.out place 1 D hpl (by decide)).mono ?_
         rintro e wq ⟨rfl, hwq⟩
         rw [hwq]
         clear hwq wq
         rw [HU1.out]
         go_wp2
         refine hR' _ _ HRD.out.cls ?_
         clear hR' hO R'
         repeat (refine m2q rfl rfl ?_; go_big_quiet_step (fail); refine wpQuiet_nil ?_)
         refine wpMix2_h2 ?_ ?_
         ·skip
          refine m2h rfl fun R' hR' hO => ?_
          go_wp2_with fail
          refine (HAT.out place 3 D hpl (by decide)).mono ?_
          rintro e wq ⟨rfl, hwq⟩
          rw [hwq]
          clear hwq wq
          rw [HU3.out]
          go_wp2
          refine hR' _ _ HRD.out.cls ?_
          clear hR' hO R'
          repeat (refine m2q rfl rfl ?_; go_big_quiet_step (fail); refine wpQuiet_nil ?_)
          refine m2h rfl fun R' hR' hO => ?_
          obtain ⟨wy, hwy, hby, hsy, hly⟩ := laid D #[.int .u64 0, .int .u64 0, .int .u64 0, .int .u64 0] 42
          obtain ⟨Y, hY⟩ := nm (D.heap.size)
          rw [hY] at hly
          have HNY6 : Hid (∀ k, (.slice a6 n6 c6 : Value).ownBlock = some k → k ≠ Y) := hid (fun k hk => by have := own_lt HRD.out.r6 k hk; omega)
          have HNY7 : Hid (∀ k, (.slice b7 m7 d7 : Value).ownBlock = some k → k ≠ Y) := hid (fun k hk => by have := own_lt HRD.out.r7 k hk; omega)
          have hXY : X < Y := by have := llD HRD.out.bx; omega
          have hVY : V.heap.size ≤ Y := by have := HRD.out.below.size; omega
          have HYB := hid hly
          have HRY := hid (HRD.out.grow hby)
          clear hly hsy hby
          go_wp2
          refine hR' _ _ HRY.out.cls ?_
          clear hR' hO R'
          refine m2h rfl fun R' hR' hO => ?_
          obtain ⟨u, hu, a1, a2, a3⟩ := put4 HYB.out (.int .u64 place) (.int .u64 B0) (.int .u64 B1) (.int .u64 B3)
          obtain ⟨z0, zf0, z1, zf1, z2, zf2, z3, zf3⟩ := fcl4 HYB.out
          have HU := hid hu
          have HRU : Hid (RNs V X #[.slice (some ⟨bw, ow, none⟩) n wc, .slice la n lc, .bool F] met2 pre (.slice a6 n6 c6) (.slice b7 m7 d7) u ∧ u.heap[Y]? = some (.cells #[.int .u64 place, .int .u64 B0, .int .u64 B1, .int .u64 B3] 42 (0, 0))) := hid ⟨⟨a2 X _ (by omega) HRY.out.bx, okp HRY.out.r6 fun k o hk ho => a2 k o (HNY6.out k hk) ho, okp HRY.out.r7 fun k o hk ho => a2 k o (HNY7.out k hk) ho, a3 _ _ hVY HRY.out.below⟩, a1⟩
          clear hu a1 a2 a3
          go_wp2
          rw [← HU.out]
          refine hR' _ _ HRU.out.1.cls ?_
          clear hR' hO R' z0 z1 z2 z3 zf0 zf1 zf2 zf3
          refine m2d ?_
          simp only [List.drop_succ_cons, List.drop_nil]
          go_wp2
          go_meet
          exact ⟨Y, rfl, HRU⟩
         ·skip
          refine m2h rfl fun R' hR' hO => ?_
          obtain ⟨wy, hwy, hby, hsy, hly⟩ := laid D #[.int .u64 0, .int .u64 0, .int .u64 0, .int .u64 0] 42
          obtain ⟨Y, hY⟩ := nm (D.heap.size)
          rw [hY] at hly
          have HNY6 : Hid (∀ k, (.slice a6 n6 c6 : Value).ownBlock = some k → k ≠ Y) := hid (fun k hk => by have := own_lt HRD.out.r6 k hk; omega)
          have HNY7 : Hid (∀ k, (.slice b7 m7 d7 : Value).ownBlock = some k → k ≠ Y) := hid (fun k hk => by have := own_lt HRD.out.r7 k hk; omega)
          have hXY : X < Y := by have := llD HRD.out.bx; omega
          have hVY : V.heap.size ≤ Y := by have := HRD.out.below.size; omega
          have HYB := hid hly
          have HRY := hid (HRD.out.grow hby)
          clear hly hsy hby
          go_wp2
          refine hR' _ _ HRY.out.cls ?_
          clear hR' hO R'
          refine m2h rfl fun R' hR' hO => ?_
          go_wp2_with fail
          refine (HAT.out place 3 wy hpl (by decide)).mono ?_
          rintro e wq ⟨rfl, hwq⟩
          rw [hwq]
          clear hwq wq
          rw [HU3.out]
          go_wp2
          refine hR' _ _ HRY.out.cls ?_
          clear hR' hO R'
          repeat (refine m2q rfl rfl ?_; go_big_quiet_step (fail); refine wpQuiet_nil ?_)
          refine m2h rfl fun R' hR' hO => ?_
          obtain ⟨u, hu, a1, a2, a3⟩ := put4 HYB.out (.int .u64 place) (.int .u64 B0) (.int .u64 B1) (.int .u64 B3)
          obtain ⟨z0, zf0, z1, zf1, z2, zf2, z3, zf3⟩ := fcl4 HYB.out
          have HU := hid hu
          have HRU : Hid (RNs V X #[.slice (some ⟨bw, ow, none⟩) n wc, .slice la n lc, .bool F] met2 pre (.slice a6 n6 c6) (.slice b7 m7 d7) u ∧ u.heap[Y]? = some (.cells #[.int .u64 place, .int .u64 B0, .int .u64 B1, .int .u64 B3] 42 (0, 0))) := hid ⟨⟨a2 X _ (by omega) HRY.out.bx, okp HRY.out.r6 fun k o hk ho => a2 k o (HNY6.out k hk) ho, okp HRY.out.r7 fun k o hk ho => a2 k o (HNY7.out k hk) ho, a3 _ _ hVY HRY.out.below⟩, a1⟩
          clear hu a1 a2 a3
          go_wp2
          rw [← HU.out]
          refine hR' _ _ HRU.out.1.cls ?_
          clear hR' hO R' z0 z1 z2 z3 zf0 zf1 zf2 zf3
          refine m2d ?_
          simp only [List.drop_succ_cons, List.drop_nil]
          go_wp2
          go_meet
          exact ⟨Y, rfl, HRU⟩
        ·skip
         refine m2h rfl fun R' hR' hO => ?_
         obtain ⟨wy, hwy, hby, hsy, hly⟩ := laid D #[.int .u64 0, .int .u64 0, .int .u64 0, .int .u64 0] 42
         obtain ⟨Y, hY⟩ := nm (D.heap.size)
         rw [hY] at hly
         have HNY6 : Hid (∀ k, (.slice a6 n6 c6 : Value).ownBlock = some k → k ≠ Y) := hid (fun k hk => by have := own_lt HRD.out.r6 k hk; omega)
         have HNY7 : Hid (∀ k, (.slice b7 m7 d7 : Value).ownBlock = some k → k ≠ Y) := hid (fun k hk => by have := own_lt HRD.out.r7 k hk; omega)
         have hXY : X < Y := by have := llD HRD.out.bx; omega
         have hVY : V.heap.size ≤ Y := by have := HRD.out.below.size; omega
         have HYB := hid hly
         have HRY := hid (HRD.out.grow hby)
         clear hly hsy hby
         go_wp2
         refine hR' _ _ HRY.out.cls ?_
         clear hR' hO R'
         refine m2h rfl fun R' hR' hO => ?_
         go_wp2_with fail
         refine (HAT.out place 1 wy hpl (by decide)).mono ?_
         rintro e wq ⟨rfl, hwq⟩
         rw [hwq]
         clear hwq wq
         rw [HU1.out]
         go_wp2
         refine hR' _ _ HRY.out.cls ?_
         clear hR' hO R'
         repeat (refine m2q rfl rfl ?_; go_big_quiet_step (fail); refine wpQuiet_nil ?_)
         refine m2h rfl fun R' hR' hO => ?_
         go_wp2_with fail
         refine (HAT.out place 3 wy hpl (by decide)).mono ?_
         rintro e wq ⟨rfl, hwq⟩
         rw [hwq]
         clear hwq wq
         rw [HU3.out]
         go_wp2
         refine hR' _ _ HRY.out.cls ?_
         clear hR' hO R'
         repeat (refine m2q rfl rfl ?_; go_big_quiet_step (fail); refine wpQuiet_nil ?_)
         refine m2h rfl fun R' hR' hO => ?_
         obtain ⟨u, hu, a1, a2, a3⟩ := put4 HYB.out (.int .u64 place) (.int .u64 B0) (.int .u64 B1) (.int .u64 B3)
         obtain ⟨z0, zf0, z1, zf1, z2, zf2, z3, zf3⟩ := fcl4 HYB.out
         have HU := hid hu
         have HRU : Hid (RNs V X #[.slice (some ⟨bw, ow, none⟩) n wc, .slice la n lc, .bool F] met2 pre (.slice a6 n6 c6) (.slice b7 m7 d7) u ∧ u.heap[Y]? = some (.cells #[.int .u64 place, .int .u64 B0, .int .u64 B1, .int .u64 B3] 42 (0, 0))) := hid ⟨⟨a2 X _ (by omega) HRY.out.bx, okp HRY.out.r6 fun k o hk ho => a2 k o (HNY6.out k hk) ho, okp HRY.out.r7 fun k o hk ho => a2 k o (HNY7.out k hk) ho, a3 _ _ hVY HRY.out.below⟩, a1⟩
         clear hu a1 a2 a3
         go_wp2
         rw [← HU.out]
         refine hR' _ _ HRU.out.1.cls ?_
         clear hR' hO R' z0 z1 z2 z3 zf0 zf1 zf2 zf3
         refine m2d ?_
         simp only [List.drop_succ_cons, List.drop_nil]
         go_wp2
         go_meet
         exact ⟨Y, rfl, HRU⟩
       ·skip
        refine m2h rfl fun R' hR' hO => ?_
        obtain ⟨wy, hwy, hby, hsy, hly⟩ := laid D #[.int .u64 0, .int .u64 0, .int .u64 0, .int .u64 0] 42
        obtain ⟨Y, hY⟩ := nm (D.heap.size)
        rw [hY] at hly
        have HNY6 : Hid (∀ k, (.slice a6 n6 c6 : Value).ownBlock = some k → k ≠ Y) := hid (fun k hk => by have := own_lt HRD.out.r6 k hk; omega)
        have HNY7 : Hid (∀ k, (.slice b7 m7 d7 : Value).ownBlock = some k → k ≠ Y) := hid (fun k hk => by have := own_lt HRD.out.r7 k hk; omega)
        have hXY : X < Y := by have := llD HRD.out.bx; omega
        have hVY : V.heap.size ≤ Y := by have := HRD.out.below.size; omega
        have HYB := hid hly
        have HRY := hid (HRD.out.grow hby)
        clear hly hsy hby
        go_wp2
        refine hR' _ _ HRY.out.cls ?_
        clear hR' hO R'
        refine m2h rfl fun R' hR' hO => ?_
        go_wp2_with fail
        refine (HAT.out place 0 wy hpl (by decide)).mono ?_
        rintro e wq ⟨rfl, hwq⟩
        rw [hwq]
        clear hwq wq
        rw [HU0.out]
        go_wp2
        refine hR' _ _ HRY.out.cls ?_
        clear hR' hO R'
        repeat (refine m2q rfl rfl ?_; go_big_quiet_step (fail); refine wpQuiet_nil ?_)
        refine m2h rfl fun R' hR' hO => ?_
        go_wp2_with fail
        refine (HAT.out place 1 wy hpl (by decide)).mono ?_
        rintro e wq ⟨rfl, hwq⟩
        rw [hwq]
        clear hwq wq
        rw [HU1.out]
        go_wp2
        refine hR' _ _ HRY.out.cls ?_
        clear hR' hO R'
        repeat (refine m2q rfl rfl ?_; go_big_quiet_step (fail); refine wpQuiet_nil ?_)
        refine m2h rfl fun R' hR' hO => ?_
        go_wp2_with fail
        refine (HAT.out place 3 wy hpl (by decide)).mono ?_
        rintro e wq ⟨rfl, hwq⟩
        rw [hwq]
        clear hwq wq
        rw [HU3.out]
        go_wp2
        refine hR' _ _ HRY.out.cls ?_
        clear hR' hO R'
        repeat (refine m2q rfl rfl ?_; go_big_quiet_step (fail); refine wpQuiet_nil ?_)
        refine m2h rfl fun R' hR' hO => ?_
        obtain ⟨u, hu, a1, a2, a3⟩ := put4 HYB.out (.int .u64 place) (.int .u64 B0) (.int .u64 B1) (.int .u64 B3)
        obtain ⟨z0, zf0, z1, zf1, z2, zf2, z3, zf3⟩ := fcl4 HYB.out
        have HU := hid hu
        have HRU : Hid (RNs V X #[.slice (some ⟨bw, ow, none⟩) n wc, .slice la n lc, .bool F] met2 pre (.slice a6 n6 c6) (.slice b7 m7 d7) u ∧ u.heap[Y]? = some (.cells #[.int .u64 place, .int .u64 B0, .int .u64 B1, .int .u64 B3] 42 (0, 0))) := hid ⟨⟨a2 X _ (by omega) HRY.out.bx, okp HRY.out.r6 fun k o hk ho => a2 k o (HNY6.out k hk) ho, okp HRY.out.r7 fun k o hk ho => a2 k o (HNY7.out k hk) ho, a3 _ _ hVY HRY.out.below⟩, a1⟩
        clear hu a1 a2 a3
        go_wp2
        rw [← HU.out]
        refine hR' _ _ HRU.out.1.cls ?_
        clear hR' hO R' z0 z1 z2 z3 zf0 zf1 zf2 zf3
        refine m2d ?_
        simp only [List.drop_succ_cons, List.drop_nil]
        go_wp2
        go_meet
        exact ⟨Y, rfl, HRU⟩
      case rest =>
       obtain ⟨Y, rfl, hcc⟩ := hcut
       obtain ⟨w4, hw4⟩ : ∃ W, W = wc := ⟨_, rfl⟩
       subst hw4
       have HR4 := hid hcc.out.1
       have HY4 := hid hcc.out.2
       clear hcc HRD HD hR2 q0 q1 q3
       obtain ⟨j0, hj0⟩ := nm (incr (pre ++ [(place, B0, B1, B3)]))
       have HINC := hid hj0
       clear hj0
       have y1 : ∀ z : Ext w4, z.v.cell? ⟨Y, 1, none⟩ = some (.int .u64 B0) := fun z => clD (klD HY4.out z.b) rfl
       have y3 : ∀ z : Ext w4, z.v.cell? ⟨Y, 3, none⟩ = some (.int .u64 B3) := fun z => clD (klD HY4.out z.b) rfl
       have hn65 : n6 ≤ 5000 := by have := hpre.out; have := HLEN.out; have := HN6.out; omega
       have hpml : Hid (met2.length = met.length + 4) := hml
       rcases nil_or_snoc pre with rfl | ⟨L, t, rfl⟩
       ·obtain rfl : n6 = 0 := HN6.out.symm
        obtain rfl : j0 = true := HINC.out.symm.trans rfl
        go_upto_region 16 with (fail)
        refine wp_region_ext (by kernel_rfl) (by kernel_rfl) ?_
        repeat (go_big_quiet_step (fail))
        refine wpQuiet_nil ?_
        rintro w8 ⟨x8, e8⟩
        have hb8 := x8.b
        rw [← e8] at hb8
        clear e8 x8
        have HR8 := hid (HR4.out.grow hb8)
        have HY8 := hid (klD HY4.out hb8)
        clear hb8 y1 y3
        have y0 := clD (i := 0) HY8.out rfl
        have y1 := clD (i := 1) HY8.out rfl
        have y2 := clD (i := 2) HY8.out rfl
        have y3 := clD (i := 3) HY8.out rfl
        obtain ⟨w5, hw5, hb5, hs5, hl5⟩ := laid w8 #[.int .u64 place, .int .u64 B0, .int .u64 B1, .int .u64 B3] 42
        obtain ⟨Z, hZ⟩ := nm (w8.heap.size)
        rw [hZ] at hl5
        have HL5 := hid hl5
        have HR5 := hid (HR8.out.grow hb5)
        have HOW6 : Hid (w5.ownsRow V.heap.size 42 4 (.slice a6 0 c6) 0 (ndcells [])) := hid (by have := HR5.out.r6; rw [HN6.out] at this; exact this)
        clear hb5 hs5 hl5
        go_wp2_with ((with_reducible show wpList _ _ _ _ _ _); refine waM elemNd rfl (.tmp 94) (.tmp 96) rfl V.heap.size (.slice a6 0 c6) 0 (ndcells []) rfl HOW6.out ⟨Z, 0, none⟩ 1 1 (nd4 (place, B0, B1, B3)) rfl rfl ?c1 ?c2 ?c3 ?c4 ?c5)
        case c1 => intro j u hj; first | (refine cell_add (o := 0) (by rw [Nat.zero_add]; exact clD HL5.out (by simpa [nd4] using hj))) | exact clD HL5.out (by simpa [nd4] using hj)
        case c2 => first | (intro u hu; simp [nd4] at hu; rcases hu with rfl | rfl | rfl | rfl <;> rfl) | omega
        try (case c3 => omega)
        try (case c4 => exact HR5.out.below.size)
        case c5 =>
         intro v6' w6 ho hg hmv
         have HR6 := hid (HR5.out.app6 (t := (place, B0, B1, B3)) (v6' := v6') (by rw [HN6.out]; exact ho) hg)
         obtain ⟨x6, y6, e6, -⟩ := Leads.of_own ho
         subst e6
         clear ho hg hmv y0 y1 y2 y3 HR8 HY8 HR5 HOW6
         go_upto_region 19 with (fail)
         have HRD := hid (HR6.out.grow (Below.refl _ _).drew)
         obtain ⟨D, hD⟩ := nm ((w6).drew)
         rw [hD] at HRD
         have HD := hid hD
         clear hD
         refine rgm2 (fun W => ∃ z : RNc V X #[.slice (some ⟨bw, ow, none⟩) n wc, .slice la n lc, .bool F], W = z.w) 7 (.q 0 (.q 1 (.q 2 (.h 3 (.q 4 (.q 5 (.q 6 .done))))))) (by kernel_rfl) (by kernel_rfl) (by rw [HD.out]; exact HRD.out.cls) ?_
         rw [HD.out]
         repeat (refine m2q rfl rfl ?_; go_big_quiet_step (fail); refine wpQuiet_nil ?_)
         refine m2h rfl fun R' hR' hO => ?_
         go_wp2_with fail
         refine (HAT.out place 2 D hpl (by decide)).mono ?_
         rintro e wq ⟨rfl, hwq⟩
         rw [hwq]
         clear hwq wq
         rw [HU2.out]
         go_wp2
         refine hR' _ _ HRD.out.cls ?_
         clear hR' hO R'
         repeat (refine m2q rfl rfl ?_; go_big_quiet_step (fail); refine wpQuiet_nil ?_)
         refine m2d ?_
         simp only [List.drop_succ_cons, List.drop_nil]
         go_wp2
         go_roundg G
         case measure => have := HG.out; have := HF1.out; omega
         case rel => exact ⟨B2, met2, _, _, _, rfl, rfl, rfl, hB2l, HRD, hid (by rw [show G = f1 by have := HG.out; have := HF1.out; omega]; exact HRE2.out), HMN, hid (by have := hf.out; have := HF1.out; have := hpml.out; have := HG.out; omega), hid (by have e := hpre.out; have := hpml.out; simp only [List.length_append, List.length_singleton] at e ⊢; omega), HINC⟩
       ·obtain ⟨t1, t2, t3, t4⟩ := t
        obtain ⟨j, hj⟩ := nm (L.length)
        obtain rfl : n6 = j + 1 := by rw [← HN6.out, List.length_append, hj]; rfl
        obtain ⟨vb, vo, rfl, hcc⟩ : ∃ b o, a6 = some ⟨b, o, none⟩ ∧ ∀ (z : Ext w4) i v, (ndcells (L ++ [(t1, t2, t3, t4)]))[i]? = some v → z.v.cell? ⟨b, o + i, none⟩ = some v := by
         obtain ⟨a', c', e, hl⟩ := Leads.of_own HR4.out.r6
         simp only [Value.slice.injEq] at e
         obtain ⟨rfl, -, rfl⟩ := e
         obtain ⟨_, _, ⟨h, _⟩ | ⟨b, off, e, _, h4⟩⟩ := hl
         ·simp at h
         ·exact ⟨b, off, e, fun z i v hv => (z.b.cell (p := ⟨b, off + i, none⟩) (by subst e; exact (own_lt HR4.out.r6 b rfl))).trans (h4 i v hv)⟩
        have hat : ∀ i v, (nd4 (t1, t2, t3, t4))[i]? = some v → (ndcells (L ++ [(t1, t2, t3, t4)]))[j * 4 + i]? = some v := fun i v hv => by
         rw [ndcells_snoc, List.getElem?_append_right (by rw [ndcells_len, hj]; omega), ndcells_len, hj, show j * 4 + i - 4 * j = i by omega]
         exact hv
        have k1 : ∀ z : Ext w4, z.v.cell? ⟨vb, vo + j * 4 + 1, none⟩ = some (.int .u64 t2) := fun z => by rw [Nat.add_assoc]; exact hcc z _ _ (hat 1 _ rfl)
        have k3 : ∀ z : Ext w4, z.v.cell? ⟨vb, vo + j * 4 + 3, none⟩ = some (.int .u64 t4) := fun z => by rw [Nat.add_assoc]; exact hcc z _ _ (hat 3 _ rfl)
        have tj : decide ((0 : Int) ≤ ((j : Nat) : Int)) = true := decide_eq_true (by omega)
        have tjl : j ≤ 5000 := by omega
        obtain ⟨AH, hAH⟩ := nm ((decide (t4 < B3) || (decide (t4 = B3) && decide (t2 < B0))))
        have HAH := hid (fun W => Ahead_any t4 t2 B3 B0 W)
        rw [hAH] at HAH
        have HIA : Hid (j0 = AH) := hid (by
         have e1 : incr ((L ++ [(t1, t2, t3, t4)]) ++ [(place, B0, B1, B3)]) = AH := by
          rw [incr_snoc, hinc.out, List.getLast?_append]
          show (true && aheadN (t1, t2, t3, t4) (place, B0, B1, B3)) = AH
          rw [← hAH]
          rfl
         rw [← HINC.out, e1])
        have HAH2 : Hid (∀ x : Ext w4, Calls Tryz.prog 35 #[.int .u64 t4, .int .u64 t2, .int .u64 B3, .int .u64 B0] x.v (Ret (.bool AH) x.v)) := hid (fun x => (HAH.out x.v).mono fun e W h => by obtain ⟨rfl, rfl⟩ := h; exact ⟨rfl, Below.refl _ _⟩)
        clear hj hcc hat hAH HAH
        go_upto_region 16 with (fail)
        refine wp_region_ext (by kernel_rfl) (by kernel_rfl) ?_
        repeat (go_big_quiet_step ((go_at_call 35; exact ext_of (HAH2.out _))))
        refine wpQuiet_nil ?_
        rintro w8 ⟨x8, e8⟩
        have hb8 := x8.b
        rw [← e8] at hb8
        clear e8 x8
        have HR8 := hid (HR4.out.grow hb8)
        have HY8 := hid (klD HY4.out hb8)
        clear hb8 y1 y3 k1 k3 HAH2
        cases AH with
        | false =>
         go_wp2
         go_ret2
         exact HNONE.out _ HR8.out.below (by rw [← HRE2.out]; exact endR_bad (HINC.out.trans HIA.out))
        | true =>
         obtain rfl : j0 = true := HIA.out
         have y0 := clD (i := 0) HY8.out rfl
         have y1 := clD (i := 1) HY8.out rfl
         have y2 := clD (i := 2) HY8.out rfl
         have y3 := clD (i := 3) HY8.out rfl
         obtain ⟨w5, hw5, hb5, hs5, hl5⟩ := laid w8 #[.int .u64 place, .int .u64 B0, .int .u64 B1, .int .u64 B3] 42
         obtain ⟨Z, hZ⟩ := nm (w8.heap.size)
         rw [hZ] at hl5
         have HL5 := hid hl5
         have HR5 := hid (HR8.out.grow hb5)
         have HOW6 : Hid (w5.ownsRow V.heap.size 42 4 (.slice (some ⟨vb, vo, none⟩) (j + 1) c6) (j + 1) (ndcells (L ++ [(t1, t2, t3, t4)]))) := hid (by have := HR5.out.r6; rw [HN6.out] at this; exact this)
         clear hb5 hs5 hl5
         go_wp2_with ((with_reducible show wpList _ _ _ _ _ _); refine waM elemNd rfl (.tmp 94) (.tmp 96) rfl V.heap.size (.slice (some ⟨vb, vo, none⟩) (j + 1) c6) (j + 1) (ndcells (L ++ [(t1, t2, t3, t4)])) rfl HOW6.out ⟨Z, 0, none⟩ 1 1 (nd4 (place, B0, B1, B3)) rfl rfl ?c1 ?c2 ?c3 ?c4 ?c5)
         case c1 => intro j u hj; first | (refine cell_add (o := 0) (by rw [Nat.zero_add]; exact clD HL5.out (by simpa [nd4] using hj))) | exact clD HL5.out (by simpa [nd4] using hj)
         case c2 => first | (intro u hu; simp [nd4] at hu; rcases hu with rfl | rfl | rfl | rfl <;> rfl) | omega
         try (case c3 => omega)
         try (case c4 => exact HR5.out.below.size)
         case c5 =>
          intro v6' w6 ho hg hmv
          have HR6 := hid (HR5.out.app6 (t := (place, B0, B1, B3)) (v6' := v6') (by rw [HN6.out]; exact ho) hg)
          obtain ⟨x6, y6, e6, -⟩ := Leads.of_own ho
          subst e6
          clear ho hg hmv y0 y1 y2 y3 HR8 HY8 HR5 HOW6
          go_upto_region 19 with (fail)
          have HRD := hid (HR6.out.grow (Below.refl _ _).drew)
          obtain ⟨D, hD⟩ := nm ((w6).drew)
          rw [hD] at HRD
          have HD := hid hD
          clear hD
          refine rgm2 (fun W => ∃ z : RNc V X #[.slice (some ⟨bw, ow, none⟩) n wc, .slice la n lc, .bool F], W = z.w) 7 (.q 0 (.q 1 (.q 2 (.h 3 (.q 4 (.q 5 (.q 6 .done))))))) (by kernel_rfl) (by kernel_rfl) (by rw [HD.out]; exact HRD.out.cls) ?_
          rw [HD.out]
          repeat (refine m2q rfl rfl ?_; go_big_quiet_step (fail); refine wpQuiet_nil ?_)
          refine m2h rfl fun R' hR' hO => ?_
          go_wp2_with fail
          refine (HAT.out place 2 D hpl (by decide)).mono ?_
          rintro e wq ⟨rfl, hwq⟩
          rw [hwq]
          clear hwq wq
          rw [HU2.out]
          go_wp2
          refine hR' _ _ HRD.out.cls ?_
          clear hR' hO R'
          repeat (refine m2q rfl rfl ?_; go_big_quiet_step (fail); refine wpQuiet_nil ?_)
          refine m2d ?_
          simp only [List.drop_succ_cons, List.drop_nil]
          go_wp2
          go_roundg G
          case measure => have := HG.out; have := HF1.out; omega
          case rel => exact ⟨B2, met2, _, _, _, rfl, rfl, rfl, hB2l, HRD, hid (by rw [show G = f1 by have := HG.out; have := HF1.out; omega]; exact HRE2.out), HMN, hid (by have := hf.out; have := HF1.out; have := hpml.out; have := HG.out; omega), hid (by have e := hpre.out; have := hpml.out; simp only [List.length_append, List.length_singleton] at e ⊢; omega), HINC⟩
end Go.Proofs.YtipohagcppfgiaaGreat
namespace Go.Proofs.YtipohagcppfgiaaGreat
open Go.RowKit
open Go.Proofs
set_option linter.unusedVariables false
attribute [local go_sem] Oper.semAt_some
theorem four_snoc (p j : Nat) (h : j < 4) : ([posL p 0, posL p 1, posL p 2, posL p 3] : List Nat).take (j + 1) = ([posL p 0, posL p 1, posL p 2, posL p 3] : List Nat).take j ++ [posL p j] := by
 match j, h with
 | 0, _ => rfl
 | 1, _ => rfl
 | 2, _ => rfl
 | 3, _ => rfl
/-- Does a node fit? -/
def fitsP (M : Mem) (head : Nat) (xs : List Nd) (t : Nd) : Bool := decide (t.1 ≠ 0) && (List.range' 0 4).all fun k => liveN M (posL t.1 k) && !decide (posL t.1 k ∈ wordsL head xs)
/-- Between two rounds of the gathering of words. -/
structure Ft (V : World) (X Y : Nat) (csx csy : Array Value) (tk : List Nat) (v9 : Value) (W : World) : Prop where
 bx : W.heap[X]? = some (.cells csx 25 (0, 0))
 by_ : W.heap[Y]? = some (.cells csy 42 (0, 0))
 r9 : W.ownsRow V.heap.size 3 1 v9 tk.length (ncells tk)
 below : Below V.heap.size V W
theorem Ft.grow {V W W' : World} {X Y : Nat} {csx csy : Array Value} {tk : List Nat} {v9 : Value} (h : Ft V X Y csx csy tk v9 W) (hb : Below W.heap.size W W') : Ft V X Y csx csy tk v9 W' :=
 ⟨klD h.bx hb, klD h.by_ hb, ogr h.r9 hb, h.below.trans (hb.mono h.below.size)⟩
theorem Ft.app {V W W' : World} {X Y q : Nat} {csx csy : Array Value} {tk : List Nat} {v9 v9' : Value} (h : Ft V X Y csx csy tk v9 W) (ho : W'.ownsRow V.heap.size 3 1 v9' (tk.length + 1) (ncells tk ++ [.int .i64 q])) (hg : W.grownBy W' v9.ownBlock) : Ft V X Y csx csy (tk ++ [q]) v9' W' := by
 refine ⟨kgr h.bx hg (own_ne h.r9 h.bx (by decide)), kgr h.by_ hg (own_ne h.r9 h.by_ (by decide)), ?_, h.below.trans (own_below h.r9 hg h.below.size)⟩
 rw [List.length_append, ncells_app]
 exact ho
end Go.Proofs.YtipohagcppfgiaaGreat
namespace Go.Proofs.YtipohagcppfgiaaGreat
open Go.RowKit
open Go.Proofs
set_option linter.unusedVariables false
attribute [local go_sem] Oper.semAt_some
/-- Who edits, on its way. -/
structure Edl (B R E Z : Nat) (V : World) (M : Mem) (s : Ede) (n g : Nat) (res : Mem × Ede × Nat) (W : World) : Prop where
 run : RunC B R M n W
 be : W.heap[E]? = some (.cells (ed8 s) 44 (0, 0))
 bz : W.heap[Z]? = some (.cells #[.slice none 0 0, .slice none 0 0, .bool false] 25 (0, 0))
 below : Below V.heap.size V W
 ok : okM M = true
 wok : ∀ x ∈ M.W, x < 18446744073709551616
 sok : s.Ok
 p0 : 0 ≤ s.ph
 p7 : s.ph ≤ 7
 res : editRun g M s n = res
 fuel : 6 ≤ g + s.ph
 cnt : g + n ≤ 5000
theorem Edl.grow {B R E Z : Nat} {V : World} {M : Mem} {s : Ede} {n g : Nat} {res : Mem × Ede × Nat} {W W' : World} (h : Edl B R E Z V M s n g res W) (hb : Below W.heap.size W W') : Edl B R E Z V M s n g res W' :=
 ⟨h.run.grow hb, klD h.be hb, klD h.bz hb, h.below.trans (hb.mono h.below.size), h.ok, h.wok, h.sok, h.p0, h.p7, h.res, h.fuel, h.cnt⟩
theorem chain_facts {M : Mem} (hok : okM M = true) (hW : ∀ x ∈ M.W, x < 18446744073709551616) : ∀ (p : Nat) (xs : List Nd), ChainP M p xs → ∀ x ∈ xs, x.1 < 4096 ∧ x.Ok
 | p, [], h, x, hx => by cases hx
 | p, y :: r, h, x, hx => by
  obtain ⟨h1, h2, h3, h4⟩ := h
  rcases List.mem_cons.1 hx with rfl | hx
  ·have := live_small hok (h3 0 (by decide))
   rw [h1]
   exact ⟨this.1, by show p < _; omega, wAt_lt hW _ _, wAt_lt hW _ _, wAt_lt hW _ _⟩
  ·exact chain_facts hok hW _ r h4 x hx
theorem nodesP_nodes {M : Mem} {head : Nat} (hW : ∀ x ∈ M.W, x < 18446744073709551616) (h : (nodesP M head).2 = 0) : ∀ x ∈ (nodesP M head).1, x.1 < 4096 ∧ x.Ok := by
 obtain ⟨h1, h2⟩ := nodesP_ok h
 obtain ⟨h3, -⟩ := nodesR_some h2
 exact chain_facts h1 hW _ _ (nodesW_chain h3).2
end Go.Proofs.YtipohagcppfgiaaGreat
namespace Go.Proofs.YtipohagcppfgiaaGreat
open Go.RowKit
open Go.Proofs
set_option linter.unusedVariables false
attribute [local go_sem] Oper.semAt_some
theorem wf_u64 {x : Nat} (h : x < 18446744073709551616) : (Lit.int .u64 x).wf = true := by
 simp [Lit.wf, IntKind.min, IntKind.max, IntKind.signed, IntKind.bits]
 omega
theorem wf_i64 {x : Int} (h : -9223372036854775808 ≤ x ∧ x ≤ 9223372036854775807) : (Lit.int .i64 x).wf = true := by
 simp [Lit.wf, IntKind.min, IntKind.max, IntKind.signed, IntKind.bits]
 omega
theorem key_u64 (d : Nat) {x : Nat} (h : x < 18446744073709551616) : Tryz.prog.keyLits (d + 1) 26 [.int .u64 x] = some [.int .u64 x] := by
 simp [Program.keyLits, Tryz.underlying26, wf_u64 h]
theorem key_i64 (d : Nat) {x : Int} (h : -9223372036854775808 ≤ x ∧ x ≤ 9223372036854775807) : Tryz.prog.keyLits (d + 1) 3 [.int .i64 x] = some [.int .i64 x] := by
 simp [Program.keyLits, Tryz.underlying3, wf_i64 h]
theorem key_bool (d : Nat) (b : Bool) : Tryz.prog.keyLits (d + 1) 4 [.bool b] = some [.bool b] := by
 simp [Program.keyLits, Tryz.underlying4]
theorem key_nd {x0 x1 x2 x3 : Nat} (h : x0 < 18446744073709551616 ∧ x1 < 18446744073709551616 ∧ x2 < 18446744073709551616 ∧ x3 < 18446744073709551616) : Tryz.prog.keyLits 2 42 [.int .u64 x0, .int .u64 x1, .int .u64 x2, .int .u64 x3] = some [.int .u64 x0, .int .u64 x1, .int .u64 x2, .int .u64 x3] := by
 have hc0 : Tryz.prog.cellsOf 26 = 1 := by kernel_rfl
 have hc1 : Tryz.prog.cellsOf 42 = 4 := by kernel_rfl
 unfold Program.keyLits
 simp only [Tryz.underlying42]
 simp [hc0, hc1, key_u64 0 h.1, key_u64 0 h.2.1, key_u64 0 h.2.2.1, key_u64 0 h.2.2.2]
set_option maxRecDepth 100000 in
theorem nd_eq (x0 x1 x2 x3 y0 y1 y2 y3 : Nat) (hx : x0 < 18446744073709551616 ∧ x1 < 18446744073709551616 ∧ x2 < 18446744073709551616 ∧ x3 < 18446744073709551616) (hy : y0 < 18446744073709551616 ∧ y1 < 18446744073709551616 ∧ y2 < 18446744073709551616 ∧ y3 < 18446744073709551616) (w : World) :
  (Op.equalIn 10000 42 (.agg #[.int .u64 x0, .int .u64 x1, .int .u64 x2, .int .u64 x3]) (.agg #[.int .u64 y0, .int .u64 y1, .int .u64 y2, .int .u64 y3])).run Tryz.prog w = .ok (decide ((x0, x1, x2, x3) = (y0, y1, y2, y3))) w := by
 have h1 := key_nd hx
 have h2 := key_nd hy
 obtain ⟨r, hr, hiff⟩ := run_equalIn_deep (P := Tryz.prog) 9998 2 42 (by kernel_rfl) w 2 2 (.agg #[.int .u64 x0, .int .u64 x1, .int .u64 x2, .int .u64 x3]) (.agg #[.int .u64 y0, .int .u64 y1, .int .u64 y2, .int .u64 y3]) _ _ (by simp [Value.formed, Tryz.underlying42]; exact (by kernel_rfl : 4 = Tryz.prog.cellsOf 42)) (by simp [Value.formed, Tryz.underlying42]; exact (by kernel_rfl : 4 = Tryz.prog.cellsOf 42)) h1 h2
 rw [hr]
 congr 1
 rw [Bool.eq_iff_iff, hiff]
 simp
 omega
theorem key_sk {s : Sk} (h : s.Ok) : Tryz.prog.keyLits 2 46 [.int .i64 s.ph, .int .u64 s.hash, .int .u64 s.key, .int .u64 s.link, .int .u64 s.node, .int .u64 s.val, .bool s.found] = some [.int .i64 s.ph, .int .u64 s.hash, .int .u64 s.key, .int .u64 s.link, .int .u64 s.node, .int .u64 s.val, .bool s.found] := by
 have hc0 : Tryz.prog.cellsOf 26 = 1 := by kernel_rfl
 have hc1 : Tryz.prog.cellsOf 3 = 1 := by kernel_rfl
 have hc2 : Tryz.prog.cellsOf 4 = 1 := by kernel_rfl
 have hc3 : Tryz.prog.cellsOf 46 = 7 := by kernel_rfl
 unfold Program.keyLits
 simp only [Tryz.underlying46]
 simp [hc0, hc1, hc2, hc3, key_i64 0 h.ph, key_bool 0, key_u64 0 h.hash, key_u64 0 h.key, key_u64 0 h.link, key_u64 0 h.node, key_u64 0 h.val]
theorem Sk.ext_iff' (s t : Sk) : s = t ↔ s.ph = t.ph ∧ s.hash = t.hash ∧ s.key = t.key ∧ s.link = t.link ∧ s.node = t.node ∧ s.val = t.val ∧ s.found = t.found := by
 cases s; cases t; simp
instance : DecidableEq Sk := fun s t => decidable_of_iff _ (Sk.ext_iff' s t).symm
set_option maxRecDepth 100000 in
theorem sk_eq (s t : Sk) (hs : s.Ok) (ht : t.Ok) (w : World) :
  (Op.equalIn 10000 46 (.agg #[.int .i64 s.ph, .int .u64 s.hash, .int .u64 s.key, .int .u64 s.link, .int .u64 s.node, .int .u64 s.val, .bool s.found]) (.agg #[.int .i64 t.ph, .int .u64 t.hash, .int .u64 t.key, .int .u64 t.link, .int .u64 t.node, .int .u64 t.val, .bool t.found])).run Tryz.prog w = .ok (decide (s = t)) w := by
 have h1 := key_sk hs
 have h2 := key_sk ht
 obtain ⟨r, hr, hiff⟩ := run_equalIn_deep (P := Tryz.prog) 9998 2 46 (by kernel_rfl) w 2 2 (.agg #[.int .i64 s.ph, .int .u64 s.hash, .int .u64 s.key, .int .u64 s.link, .int .u64 s.node, .int .u64 s.val, .bool s.found]) (.agg #[.int .i64 t.ph, .int .u64 t.hash, .int .u64 t.key, .int .u64 t.link, .int .u64 t.node, .int .u64 t.val, .bool t.found]) _ _ (by simp [Value.formed, Tryz.underlying46]; exact (by kernel_rfl : 7 = Tryz.prog.cellsOf 46)) (by simp [Value.formed, Tryz.underlying46]; exact (by kernel_rfl : 7 = Tryz.prog.cellsOf 46)) h1 h2
 rw [hr]
 congr 1
 rw [Bool.eq_iff_iff, hiff, decide_eq_true_iff, Sk.ext_iff']
 simp
 intro _
 constructor
 ·rintro ⟨a, b, c, d, e, f⟩; exact ⟨by omega, by omega, by omega, by omega, by omega, f⟩
 ·rintro ⟨a, b, c, d, e, f⟩; exact ⟨by omega, by omega, by omega, by omega, by omega, f⟩
theorem key_ed {s : Ede} (h : s.Ok) : Tryz.prog.keyLits 3 44 [.int .i64 s.ph, .bool s.cuts, .int .u64 s.link, .int .u64 s.at_, .int .u64 s.key, .int .u64 s.val, .int .u64 s.hash, .int .u64 s.next] = some [.int .i64 s.ph, .bool s.cuts, .int .u64 s.link, .int .u64 s.at_, .int .u64 s.key, .int .u64 s.val, .int .u64 s.hash, .int .u64 s.next] := by
 have hc0 : Tryz.prog.cellsOf 26 = 1 := by kernel_rfl
 have hc1 : Tryz.prog.cellsOf 3 = 1 := by kernel_rfl
 have hc2 : Tryz.prog.cellsOf 4 = 1 := by kernel_rfl
 have hc3 : Tryz.prog.cellsOf 42 = 4 := by kernel_rfl
 have hc4 : Tryz.prog.cellsOf 44 = 8 := by kernel_rfl
 have ht := key_nd (x0 := s.at_) (x1 := s.key) (x2 := s.val) (x3 := s.hash) ⟨h.at_, h.key, h.val, h.hash⟩
 unfold Program.keyLits
 simp only [Tryz.underlying44]
 simp [hc0, hc1, hc2, hc3, hc4, key_i64 1 h.ph, key_bool 1, key_u64 1 h.link, key_u64 1 h.next, ht]
theorem Ede.ext_iff' (s t : Ede) : s = t ↔ s.ph = t.ph ∧ s.cuts = t.cuts ∧ s.link = t.link ∧ s.at_ = t.at_ ∧ s.key = t.key ∧ s.val = t.val ∧ s.hash = t.hash ∧ s.next = t.next := by
 cases s; cases t; simp
instance : DecidableEq Ede := fun s t => decidable_of_iff _ (Ede.ext_iff' s t).symm
set_option maxRecDepth 100000 in
theorem ed_eq (s t : Ede) (hs : s.Ok) (ht : t.Ok) (w : World) :
  (Op.equalIn 10000 44 (.agg #[.int .i64 s.ph, .bool s.cuts, .int .u64 s.link, .int .u64 s.at_, .int .u64 s.key, .int .u64 s.val, .int .u64 s.hash, .int .u64 s.next]) (.agg #[.int .i64 t.ph, .bool t.cuts, .int .u64 t.link, .int .u64 t.at_, .int .u64 t.key, .int .u64 t.val, .int .u64 t.hash, .int .u64 t.next])).run Tryz.prog w = .ok (decide (s = t)) w := by
 have h1 := key_ed hs
 have h2 := key_ed ht
 obtain ⟨r, hr, hiff⟩ := run_equalIn_deep (P := Tryz.prog) 9997 3 44 (by kernel_rfl) w 3 3 (.agg #[.int .i64 s.ph, .bool s.cuts, .int .u64 s.link, .int .u64 s.at_, .int .u64 s.key, .int .u64 s.val, .int .u64 s.hash, .int .u64 s.next]) (.agg #[.int .i64 t.ph, .bool t.cuts, .int .u64 t.link, .int .u64 t.at_, .int .u64 t.key, .int .u64 t.val, .int .u64 t.hash, .int .u64 t.next]) _ _ (by simp [Value.formed, Tryz.underlying44]; exact (by kernel_rfl : 8 = Tryz.prog.cellsOf 44)) (by simp [Value.formed, Tryz.underlying44]; exact (by kernel_rfl : 8 = Tryz.prog.cellsOf 44)) h1 h2
 rw [hr]
 congr 1
 rw [Bool.eq_iff_iff, hiff, decide_eq_true_iff, Ede.ext_iff']
 simp
 omega
/-- A node of a row. -/
theorem Leads.nd {w : World} {a : Option Addr} {n cap k : Nat} {xs : List Nd} {x : Nd} (h : Leads w a n cap (ndcells xs)) (hk : k < n) (hx : xs[k]? = some x) : ∃ b off, a = some ⟨b, off, none⟩ ∧ b < w.heap.size ∧ ∀ w', Below w.heap.size w w' → w'.cell? ⟨b, off + k * 4, none⟩ = some (.int .u64 x.1) ∧ w'.cell? ⟨b, off + k * 4 + 1, none⟩ = some (.int .u64 x.2.1) ∧ w'.cell? ⟨b, off + k * 4 + 2, none⟩ = some (.int .u64 x.2.2.1) ∧ w'.cell? ⟨b, off + k * 4 + 3, none⟩ = some (.int .u64 x.2.2.2) := by
 obtain ⟨_, _, ⟨q, _⟩ | ⟨b, off, rfl, hb, hc⟩⟩ := h
 ·omega
 ·have hat : ∀ i, i < 4 → (ndcells xs)[k * 4 + i]? = (nd4 x)[i]? := fun i hi => flat_at nd4 4 (fun _ => rfl) xs k i _ hx hi
  refine ⟨b, off, rfl, hb, fun w' hw => ⟨?_, ?_, ?_, ?_⟩⟩
  ·exact (hw.cell (p := ⟨b, off + k * 4, none⟩) hb).trans (hc (k * 4 + 0) _ (hat 0 (by decide)))
  ·exact (hw.cell (p := ⟨b, off + k * 4 + 1, none⟩) hb).trans (hc (k * 4 + 1) _ (hat 1 (by decide)))
  ·exact (hw.cell (p := ⟨b, off + k * 4 + 2, none⟩) hb).trans (hc (k * 4 + 2) _ (hat 2 (by decide)))
  ·exact (hw.cell (p := ⟨b, off + k * 4 + 3, none⟩) hb).trans (hc (k * 4 + 3) _ (hat 3 (by decide)))
def NdsOk (xs : List Nd) : Prop := ∀ t ∈ xs, t.1 < 18446744073709551616 ∧ t.2.1 < 18446744073709551616 ∧ t.2.2.1 < 18446744073709551616 ∧ t.2.2.2 < 18446744073709551616
set_option maxRecDepth 100000 in
set_option maxHeartbeats 2000000 in
theorem rSame_any (xs ys : List Nd) (a a' : Option Addr) (n n' cap cap' : Nat) (w : World) (hx : xs.length = n) (hy : ys.length = n') (hxb : NdsOk xs) (hyb : NdsOk ys) (h : Leads w a n cap (ndcells xs)) (h' : Leads w a' n' cap' (ndcells ys)) :
  Calls Tryz.prog 10 #[.slice a n cap, .slice a' n' cap'] w (Ret (.bool (decide (xs = ys))) w) := by
 have hn := h.len.1
 have hn' := h'.len.1
 by_cases hnn : n = n'
 ·subst hnn
  have H := hid h
  have H' := hid h'
  have HX := hid hx
  have HY := hid hy
  have HXB := hid hxb
  have HYB := hid hyb
  clear h h' hx hy hxb hyb
  go_enter Tryz.func10, Tryz.ntmps10
  go_wp2
  go_loopg [14] n (fun g  i wr => ∃ k : Nat, g + k = n ∧ i = .int .i64 (k : Nat) ∧ Hid (xs.take k = ys.take k) ∧ Hid (Below w.heap.size w wr))
  case atStart => exact ⟨0, rfl, rfl, hid rfl, hid (Below.refl _ _)⟩
  case round =>
   obtain ⟨k, hk, rfl, hs, hb⟩ := hrel
   have HK := hid hk
   clear hk
   by_cases hlt : k < n
   ·obtain ⟨⟨x0, x1, x2, x3⟩, hxk⟩ : ∃ x, xs[k]? = some x := ⟨_, List.getElem?_eq_getElem (by rw [HX.out]; exact hlt)⟩
    obtain ⟨⟨y0, y1, y2, y3⟩, hyk⟩ : ∃ x, ys[k]? = some x := ⟨_, List.getElem?_eq_getElem (by rw [HY.out]; exact hlt)⟩
    obtain ⟨b, off, rfl, -, hcx⟩ := H.out.nd hlt hxk
    obtain ⟨b', off', rfl, -, hcy⟩ := H'.out.nd hlt hyk
    have heq := nd_eq x0 x1 x2 x3 y0 y1 y2 y3 (HXB.out _ (List.mem_of_getElem? hxk)) (HYB.out _ (List.mem_of_getElem? hyk))
    obtain ⟨E, hE⟩ := nm (decide ((x0, x1, x2, x3) = (y0, y1, y2, y3)))
    rw [hE] at heq
    obtain ⟨w1, hw1, hb1, hs1, hl1⟩ := laid wr #[.int .u64 0, .int .u64 0, .int .u64 0, .int .u64 0] 42
    obtain ⟨B, hB⟩ := nm (wr.heap.size)
    rw [hB] at hl1
    obtain ⟨w2, hw2, a1, a2, a3⟩ := put4 hl1 (.int .u64 x0) (.int .u64 x1) (.int .u64 x2) (.int .u64 x3)
    obtain ⟨z0, zf0, z1, zf1, z2, zf2, z3, zf3⟩ := fcl4 hl1
    have hbb : Below wr.heap.size wr w2 := a3 _ _ (by omega) hb1
    have HKB := hid a1
    have HW2 := hid hw2
    have HB1 := hid (step hb.out hbb)
    obtain ⟨c0, c1, c2, c3⟩ := hcx wr hb.out
    clear hw2 a1 a2 a3 hs1 hl1 hb1 hbb
    go_upto_region 6 with (fail)
    rw [← HW2.out]
    clear z0 z1 z2 z3 zf0 zf1 zf2 zf3 c0 c1 c2 c3
    have f0 : ∀ z : Ext w2, z.v.cell? ⟨B, 0, none⟩ = some (.int .u64 x0) := fun z => clD (klD HKB.out z.b) rfl
    have f1 : ∀ z : Ext w2, z.v.cell? ⟨B, 1, none⟩ = some (.int .u64 x1) := fun z => clD (klD HKB.out z.b) rfl
    have f2 : ∀ z : Ext w2, z.v.cell? ⟨B, 2, none⟩ = some (.int .u64 x2) := fun z => clD (klD HKB.out z.b) rfl
    have f3 : ∀ z : Ext w2, z.v.cell? ⟨B, 3, none⟩ = some (.int .u64 x3) := fun z => clD (klD HKB.out z.b) rfl
    have g0 : ∀ z : Ext w2, z.v.cell? ⟨b', off' + k * 4, none⟩ = some (.int .u64 y0) := fun z => (hcy z.v (step HB1.out z.b)).1
    have g1 : ∀ z : Ext w2, z.v.cell? ⟨b', off' + k * 4 + 1, none⟩ = some (.int .u64 y1) := fun z => (hcy z.v (step HB1.out z.b)).2.1
    have g2 : ∀ z : Ext w2, z.v.cell? ⟨b', off' + k * 4 + 2, none⟩ = some (.int .u64 y2) := fun z => (hcy z.v (step HB1.out z.b)).2.2.1
    have g3 : ∀ z : Ext w2, z.v.cell? ⟨b', off' + k * 4 + 3, none⟩ = some (.int .u64 y3) := fun z => (hcy z.v (step HB1.out z.b)).2.2.2
    by_cases he : (x0, x1, x2, x3) = (y0, y1, y2, y3)
    ·have HT := hid (eq_take _ _ k _ _ hs.out hxk hyk he)
     have hEt : E = true := by rw [← hE]; exact decide_eq_true he
     subst hEt
     clear hcx hcy hxk hyk hs hE he
     refine wp_region_ext (by kernel_rfl) (by kernel_rfl) ?_
     repeat (go_big_quiet_step (fail))
     refine wpQuiet_nil ?_
     rintro v8 ⟨x8, e8⟩
     have HB2 := hid (step HB1.out x8.b)
     rw [← e8] at HB2
     clear e8 x8
     go_wp2
     go_roundg (gk - 1)
     case measure => have := HK.out; omega
     case rel => exact ⟨k + 1, by have := HK.out; omega, by go_num, HT, HB2⟩
    ·have HT := hid (ne_at _ _ k _ _ hxk hyk he)
     have hEt : E = false := by rw [← hE]; exact decide_eq_false he
     subst hEt
     clear hcx hcy hxk hyk hs hE he
     refine wp_region_ext (by kernel_rfl) (by kernel_rfl) ?_
     repeat (go_big_quiet_step (fail))
     refine wpQuiet_nil ?_
     rintro v8 ⟨x8, e8⟩
     have HB2 := hid (step HB1.out x8.b)
     rw [← e8] at HB2
     clear e8 x8
     go_wp2
     go_ret
     exact ⟨retb (decide_eq_false HT.out).symm, HB2.out⟩
   ·have e := HK.out
    obtain rfl : k = n := by omega
    have HE : Hid (xs = ys) := hid (by
     have := hs.out
     rwa [List.take_of_length_le (by rw [HX.out]; exact Nat.le_refl _), List.take_of_length_le (by rw [HY.out]; exact Nat.le_refl _)] at this)
    clear hs e HK
    go_wp2
    go_ret
    exact ⟨retb (decide_eq_true HE.out).symm, hb.out⟩
 ·have hne : xs ≠ ys := fun e => hnn (by rw [← hx, ← hy, e])
  have HE := hid hne
  have q : (((n : Nat) : Int) != ((n' : Nat) : Int)) = true := by simp; omega
  clear h h' hx hy hxb hyb hne hnn
  go_enter Tryz.func10, Tryz.ntmps10
  go_wp2
  go_ret
  exact ⟨retb (decide_eq_false HE.out).symm, Below.refl _ _⟩
end Go.Proofs.YtipohagcppfgiaaGreat
namespace Go.Proofs.YtipohagcppfgiaaGreat
open Go.RowKit
open Go.Proofs
set_option linter.unusedVariables false
end Go.Proofs.YtipohagcppfgiaaGreat
namespace Go.Proofs.YtipohagcppfgiaaGreat
open Go.RowKit
open Go.Proofs
set_option linter.unusedVariables false
attribute [local go_sem] Oper.semAt_some
/-- Many cells of a block are written: the block, and all others, behind it. -/
theorem setCells_at {e : TypeId} {g : Nat} : ∀ (vs : List Value) (o : Nat) (W : World) (cur : Array Value), W.heap[g]? = some (.cells cur e (0, 0)) →
  ∃ cur', (W.setCells g o vs).heap[g]? = some (.cells cur' e (0, 0)) ∧ cur'.size = cur.size ∧ (∀ i, (i < o ∨ o + vs.length ≤ i) → cur'[i]? = cur[i]?) ∧ (∀ j v, vs[j]? = some v → o + j < cur.size → cur'[o + j]? = some v) ∧
   (∀ b ob, b ≠ g → W.heap[b]? = some ob → (W.setCells g o vs).heap[b]? = some ob) ∧ (∀ B w, B ≤ g → Below B w W → Below B w (W.setCells g o vs))
 | [], o, W, cur, h => ⟨cur, h, rfl, fun _ _ => rfl, fun j v h => by simp at h, fun _ _ _ h => h, fun _ _ _ h => h⟩
 | v :: r, o, W, cur, h => by
  obtain ⟨cur', h1, h2, h3, h4, h5, h6⟩ := setCells_at r (o + 1) (W.setCell ⟨g, o, none⟩ v) _ (slD (i := o) h v)
  refine ⟨cur', h1, by rw [h2]; simp, fun i hi => ?_, fun j u hj ho => ?_, fun b ob hb hob => h5 b ob hb (olD hob hb v), fun B w hB hw => h6 B w hB (hw.setCell (p := ⟨g, o, none⟩) hB v)⟩
  ·have hl : (v :: r).length = r.length + 1 := rfl
   rw [h3 i (by omega), Array.getElem?_setIfInBounds]
   rw [if_neg (by omega)]
  ·rcases j with _ | j
   ·rw [h3 _ (by omega)]
    simp only [List.getElem?_cons_zero, Option.some.injEq] at hj
    subst hj
    rw [Nat.add_zero, Array.getElem?_setIfInBounds, if_pos rfl, if_pos (by simpa using ho)]
   ·have := h4 j u (by simpa using hj) (by simp; omega)
    rw [show o + (j + 1) = o + 1 + j by omega]
    exact this
/-- 'clear' at one node. -/
theorem run_clear_nd (w : World) (ty : TypeId) (g o c : Nat) (hc : ∀ j, j < 4 → (w.cell? ⟨g, o + j, none⟩).isSome = true) (hf : ∀ j, j < 4 → w.frozen? ⟨g, o + j, none⟩ = false) :
  (Builtin.clear_ #[36] ty #[.slice (some ⟨g, o, none⟩) 1 c]).run Tryz.prog w = .ok (.tuple #[]) (w.setCells g o [.int .u64 0, .int .u64 0, .int .u64 0, .int .u64 0]) := by
 have hst := run_storeCells_cells (P := Tryz.prog) g o [.int .u64 0, .int .u64 0, .int .u64 0, .int .u64 0] 0 w (by simpa using hc) (by simpa using hf) (by intro v hv; simp at hv; subst hv; rfl)
 simp only [Nat.add_zero] at hst
 have hz : (Builtin.zeroCells (Value.agg #[.int .u64 0, .int .u64 0, .int .u64 0, .int .u64 0]).cells 1).toList = [.int .u64 0, .int .u64 0, .int .u64 0, .int .u64 0] := by kernel_rfl
 have hu := run_underlying (P := Tryz.prog) Tryz.underlying36 (w := w)
 simp [Builtin.clear_, hu, hz, hst]
theorem ndcells_drop (xs : List Nd) (k : Nat) : (ndcells xs).drop (k * 4) = ndcells (xs.drop k) := by
 induction xs generalizing k with
 | nil => simp [ndcells]
 | cons x xs ih =>
  cases k with
  | zero => simp
  | succ k =>
   have e : (k + 1) * 4 = k * 4 + 1 + 1 + 1 + 1 := by omega
   rw [e]
   exact ih k
theorem ndcells_take (xs : List Nd) (k : Nat) : (ndcells xs).take (k * 4) = ndcells (xs.take k) := by
 induction xs generalizing k with
 | nil => simp [ndcells]
 | cons x xs ih =>
  cases k with
  | zero => simp [ndcells]
  | succ k =>
   have e : (k + 1) * 4 = k * 4 + 1 + 1 + 1 + 1 := by omega
   rw [e]
   show _ :: _ :: _ :: _ :: (ndcells xs).take (k * 4) = _
   rw [ih k]
   rfl
theorem ndcells_append (xs ys : List Nd) : ndcells (xs ++ ys) = ndcells xs ++ ndcells ys := by simp [ndcells]
theorem nd4_one (t : Nd) : ∀ u ∈ nd4 t, u.oneCell' = true := by
 intro u hu
 simp only [nd4, List.mem_cons, List.not_mem_nil, or_false] at hu
 rcases hu with rfl | rfl | rfl | rfl <;> rfl
theorem ndcells_one (xs : List Nd) : ∀ u ∈ ndcells xs, u.oneCell' = true := by
 intro u hu
 simp only [ndcells, List.mem_flatMap] at hu
 obtain ⟨t, -, h⟩ := hu
 exact nd4_one t u h
set_option maxRecDepth 100000 in
set_option maxHeartbeats 4000000 in
/-- A row of one's own without one of its nodes. -/
theorem Delete_any (xs : List Nd) (g n m cap k base : Nat) (z : Int) (V : World) (h : V.ownsRow base 42 4 (.slice (some ⟨g, 0, none⟩) n cap) n (ndcells xs)) (hk : k < n) (hn : n = m + 1) (hn5 : n ≤ 5000) (hz : z = (k : Int) + 1) :
  Calls Tryz.prog 33 #[.slice (some ⟨g, 0, none⟩) n cap, .int .i64 k, .int .i64 z] V (fun e W => e = .returned (.slice (some ⟨g, 0, none⟩) m cap) ∧
   W.ownsRow base 42 4 (.slice (some ⟨g, 0, none⟩) m cap) m (ndcells (xs.eraseIdx k)) ∧ (∀ b o, b ≠ g → V.heap[b]? = some o → W.heap[b]? = some o) ∧ (∀ B w, B ≤ g → Below B w V → Below B w W)) := by
 obtain ⟨-, ⟨h, -⟩ | ⟨g', cap', cur, he, hbg, hG, hnc, hcm, hcs, hct⟩⟩ := h
 ·cases h
 simp only [Value.slice.injEq, Option.some.injEq, Addr.mk.injEq, and_true, true_and] at he
 obtain ⟨rfl, rfl⟩ := he
 obtain ⟨j, hj⟩ : ∃ j, j = k + 1 := ⟨_, rfl⟩
 obtain rfl : z = ((j : Nat) : Int) := by omega
 have hxl : xs.length = n := by
  have h0 := congrArg List.length hct
  rw [ndcells_len, List.length_take, Array.length_toList, hcs] at h0
  omega
 have hcell : ∀ i, i < n * 4 → cur[i]? = (ndcells xs)[i]? := by
  intro i hi
  rw [← hct, List.getElem?_take, if_pos hi, Array.getElem?_toList]
 have hdl : (ndcells (xs.drop j)).length = (n - j) * 4 := by rw [ndcells_len, List.length_drop, hxl]; omega
 obtain ⟨W1, hW1⟩ : ∃ W1, W1 = V.drew.setCells g (k * 4) (ndcells (xs.drop j)) := ⟨_, rfl⟩
 have hGd : V.drew.heap[g]? = some (.cells cur 42 (0, 0)) := hG
 obtain ⟨cur1, c1, c2, c3, c4, c5, c6⟩ := setCells_at (ndcells (xs.drop j)) (k * 4) V.drew cur hGd
 rw [← hW1] at c1 c5 c6
 obtain ⟨cur2, d1, d2, d3, d4, d5, d6⟩ := setCells_at [.int .u64 0, .int .u64 0, .int .u64 0, .int .u64 0] (m * 4) W1 cur1 c1
 obtain ⟨W2, hW2⟩ : ∃ W2, W2 = W1.setCells g (m * 4) [.int .u64 0, .int .u64 0, .int .u64 0, .int .u64 0] := ⟨_, rfl⟩
 rw [← hW2] at d1 d5 d6
 have hsrc : ∃ A : Addr, (if cap = j then (some ⟨g, 0, none⟩ : Option Addr) else some ⟨g, j * 4, none⟩) = some A ∧ Hid (∀ t u, (ndcells (xs.drop j))[t]? = some u → V.drew.cell? (A.add t) = some u) := by
  have hread : ∀ t u, (ndcells (xs.drop j))[t]? = some u → V.drew.cell? ⟨g, j * 4 + t, none⟩ = some u := by
   intro t u hu
   have ht : t < (n - j) * 4 := by
    have := (List.getElem?_eq_some_iff.1 hu).1
    rwa [hdl] at this
   refine at_block hGd ?_
   rw [hcell _ (by omega)]
   rw [← ndcells_drop, List.getElem?_drop] at hu
   exact hu
  by_cases hc : cap = j
  ·refine ⟨⟨g, 0, none⟩, by simp [hc], hid fun t u hu => ?_⟩
   have h0 : (ndcells (xs.drop j)).length = 0 := by rw [hdl]; omega
   rw [List.length_eq_zero_iff.1 h0] at hu
   simp at hu
  ·exact ⟨⟨g, j * 4, none⟩, by simp [hc], hid fun t u hu => by rw [Addr.add_lit]; exact hread t u hu⟩
 obtain ⟨A, hA, HA⟩ := hsrc
 have s1 : Hid ((ndcells (xs.drop j)).length = (n - j) * 4) := hid hdl
 have s2 : Hid (∀ u ∈ ndcells (xs.drop j), u.oneCell' = true) := hid (ndcells_one _)
 have s3 : Hid (∀ t, t < (ndcells (xs.drop j)).length → (V.drew.cell? ⟨g, 0 + k * 4 + t, none⟩).isSome = true ∧ V.drew.frozen? ⟨g, 0 + k * 4 + t, none⟩ = false) := hid (fun t ht => by
  rw [hdl] at ht
  obtain ⟨v, hv⟩ : ∃ v, cur[0 + k * 4 + t]? = some v := ⟨_, Array.getElem?_eq_getElem (by omega)⟩
  exact ⟨by rw [at_block hGd hv]; rfl, flD hGd⟩)
 have hcl : ∀ ty c, (Builtin.clear_ #[36] ty #[.slice (some ⟨g, m * 4, none⟩) 1 c]).run Tryz.prog W1 = .ok (.tuple #[]) W2 := by
  intro ty c
  rw [hW2]
  refine run_clear_nd W1 ty g (m * 4) c (fun t ht => ?_) (fun t ht => flD c1)
  obtain ⟨v, hv⟩ : ∃ v, cur1[m * 4 + t]? = some v := ⟨_, Array.getElem?_eq_getElem (by omega)⟩
  rw [at_block c1 hv]; rfl
 have hend : Hid (W2.ownsRow base 42 4 (.slice (some ⟨g, 0, none⟩) m cap) m (ndcells (xs.eraseIdx k)) ∧ (∀ b o, b ≠ g → V.heap[b]? = some o → W2.heap[b]? = some o) ∧ (∀ B w, B ≤ g → Below B w V → Below B w W2)) := hid (by
  have hel : (xs.eraseIdx k).length = m := by rw [List.length_eraseIdx, if_pos (by omega)]; omega
  refine ⟨⟨by rw [ndcells_len, hel]; omega, .inr ⟨g, cap, cur2, rfl, hbg, d1, by omega, hcm, by rw [d2, c2, hcs], ?_⟩⟩, fun b o hb ho => d5 b o hb (c5 b o hb ho), fun B w hB hw => d6 B w hB (c6 B w hB hw.drew)⟩
  apply List.ext_getElem?
  intro i
  rw [List.getElem?_take]
  by_cases hi : i < m * 4
  ·rw [if_pos hi, Array.getElem?_toList, d3 i (.inl hi), List.eraseIdx_eq_take_drop_succ, ndcells_append]
   by_cases hik : i < k * 4
   ·rw [c3 i (.inl hik), hcell i (by omega), List.getElem?_append_left (by rw [ndcells_len, List.length_take]; omega), ← ndcells_take, List.getElem?_take, if_pos hik]
   ·obtain ⟨t, rfl⟩ : ∃ t, i = k * 4 + t := ⟨i - k * 4, by omega⟩
    have ht : t < (ndcells (xs.drop j)).length := by rw [hdl]; omega
    rw [c4 t _ (List.getElem?_eq_getElem ht) (by omega), List.getElem?_append_right (by rw [ndcells_len, List.length_take]; omega), ← hj]
    rw [show k * 4 + t - (ndcells (xs.take k)).length = t by rw [ndcells_len, List.length_take]; omega, List.getElem?_eq_getElem ht]
  ·rw [if_neg hi, List.getElem?_eq_none (by rw [ndcells_len, hel]; omega)])
 have HW := hid hW1
 have e1 : k + (n - j) = m := by omega
 have e2 : n - m = 1 := by omega
 have hkc : k ≤ cap := by omega
 have hjc : j ≤ cap := by omega
 have hjn : j ≤ n := by omega
 have hne : k ≠ j := by omega
 have mixed : Tryz.prog.follows .mixedOrders = true := by kernel_rfl
 clear hG hGd c1 c2 c3 c4 c5 c6 d1 d2 d3 d4 d5 d6 hW1 hW2 hcell hct hcs hxl hdl hbg hn hj hz
 go_enter Tryz.func33, Tryz.ntmps33
 go_wp2_with fail
 go_region_law_o (refine step_append_room rfl (.tmp 22) (.tmp 25) 36 rfl 42 Tryz.t42 4 Tryz.underlying36 (by kernel_rfl) (by kernel_rfl) g 0 k cap (by simp [Act.eval, Act.put]) A (n - j) (cap - j) (ndcells (xs.drop j)) (by simp [Act.eval, Act.put]) s1.out HA.out s2.out (by omega) s3.out ?_; rw [Nat.zero_add, ← HW.out])
 go_wp2
 go_ret
 exact ⟨rfl, hend.out⟩
end Go.Proofs.YtipohagcppfgiaaGreat
namespace Go.Proofs.YtipohagcppfgiaaGreat
open Go.RowKit
open Go.Proofs
set_option linter.unusedVariables false
attribute [local go_sem] Oper.semAt_some
theorem run_copy_wide (w : World) (dT sT ty elem : TypeId) (m b o dLen dCap : Nat) (a : Addr) (sLen sCap k : Nat) (cs : List Value)
  (hu : Tryz.prog.underlying dT = some (.slice elem)) (hs : (Tryz.prog.info? elem).map (·.size) = some m) (hk : Nat.min sLen dLen = k) (hn : cs.length = k * m)
  (hsrc : ∀ j v, cs[j]? = some v → w.cell? (a.add j) = some v) (hc : ∀ j, j < cs.length → (w.cell? ⟨b, o + j, none⟩).isSome = true) (hf : ∀ j, j < cs.length → w.frozen? ⟨b, o + j, none⟩ = false) (h1 : ∀ v ∈ cs, v.oneCell' = true) :
  (Builtin.copy_ #[dT, sT] ty #[.slice (some ⟨b, o, none⟩) dLen dCap, .slice (some a) sLen sCap]).run Tryz.prog w = .ok (goInt k) (w.setCells b o cs) := by
 have hl := run_loadCells_list (P := Tryz.prog) w a cs hsrc
 have hst := run_storeCells_cells (P := Tryz.prog) b o cs 0 w (by simpa using hc) (by simpa using hf) h1
 cases hq : Tryz.prog.info? elem with
 | none => simp [hq] at hs
 | some i =>
  have hi : i.size = m := by simpa [hq] using hs
  have hn' : Nat.min sLen dLen * m = cs.length := by rw [hk, hn]
  have hk' : min sLen dLen = k := hk
  simp [Builtin.copy_, run_underlying hu, Builtin.lenOf, Builtin.firstCells, sizeOf, typeInfo, hq, hi, hk', ← hn, hl, hst]
/-- What Insert gives. -/
def GivesIns (L : List Nd) (base g : Nat) (V : World) (e : Ending) (W : World) : Prop := ∃ v, e = .returned v ∧ W.ownsRow base 42 4 v L.length (ndcells L) ∧ V.grownBy W (some g)
theorem grownBy_setCells (g : Nat) : ∀ (vs : List Value) (o : Nat) (A : World), A.grownBy (A.setCells g o vs) (some g)
 | [], o, A => ⟨rfl, rfl, rfl, Nat.le_refl _, fun _ _ _ => rfl⟩
 | v :: r, o, A => grownBy_trans (grownBy_setCell A g o v) (grownBy_setCells g r (o + 1) _)
theorem take_of_cells {xs ys : List Value} {n m : Nat} (hx : xs.length = n) (hm : n ≤ m) (h : ∀ j, j < n → ys[j]? = xs[j]?) (hl : n ≤ ys.length) : ys.take n = xs := by
 apply List.ext_getElem?
 intro j
 rw [List.getElem?_take]
 by_cases hj : j < n
 ·rw [if_pos hj, h j hj]
 ·rw [if_neg hj, List.getElem?_eq_none (by omega)]
/-- The cells of a row with one more. -/
theorem ins_cells (L : List Nd) (t : Nd) (i n : Nat) (hi : i ≤ n) (hn : L.length = n) (cur : Array Value) (hs : (n + 1) * 4 ≤ cur.size)
  (h1 : ∀ j, j < i * 4 → cur[j]? = (ndcells L)[j]?) (h2 : ∀ j v, (nd4 t)[j]? = some v → cur[i * 4 + j]? = some v) (h3 : ∀ j v, (ndcells (L.drop i))[j]? = some v → cur[(i + 1) * 4 + j]? = some v) :
  cur.toList.take ((n + 1) * 4) = ndcells (L.take i ++ t :: L.drop i) := by
 have hlen : (ndcells (L.take i ++ t :: L.drop i)).length = (n + 1) * 4 := by rw [ndcells_len]; simp; omega
 have hta : (ndcells (L.take i)).length = i * 4 := by rw [ndcells_len, List.length_take]; omega
 have hdr : (ndcells (L.drop i)).length = (n - i) * 4 := by rw [ndcells_len, List.length_drop, hn]; omega
 refine take_of_cells hlen (Nat.le_refl _) (fun j hj => ?_) (by simpa using hs)
 rw [Array.getElem?_toList, ndcells_append]
 by_cases c1 : j < i * 4
 ·rw [h1 j c1, List.getElem?_append_left (by omega), ← ndcells_take, List.getElem?_take, if_pos c1]
 ·rw [List.getElem?_append_right (by omega), hta]
  show cur[j]? = (nd4 t ++ ndcells (L.drop i))[j - i * 4]?
  by_cases c2 : j < (i + 1) * 4
  ·have hj4 : j - i * 4 < (nd4 t).length := by show _ < 4; omega
   rw [List.getElem?_append_left hj4, List.getElem?_eq_getElem hj4]
   have := h2 (j - i * 4) _ (List.getElem?_eq_getElem hj4)
   rwa [show i * 4 + (j - i * 4) = j by omega] at this
  ·have h4 : (nd4 t).length = 4 := rfl
   rw [List.getElem?_append_right (by omega), h4]
   have hj5 : j - i * 4 - 4 < (ndcells (L.drop i)).length := by omega
   rw [List.getElem?_eq_getElem hj5]
   have := h3 (j - i * 4 - 4) _ (List.getElem?_eq_getElem hj5)
   rwa [show (i + 1) * 4 + (j - i * 4 - 4) = j by omega] at this
set_option maxRecDepth 100000 in
set_option maxHeartbeats 4000000 in
/-- At the end. -/
theorem InsEnd_any (L : List Nd) (t : Nd) (g n c i vb base : Nat) (V : World) (h : V.ownsRow base 42 4 (.slice (some ⟨g, 0, none⟩) n c) n (ndcells L)) (hln : L.length = n) (hn : n ≤ 5000) (hv : V.heap[vb]? = some (.cells #[.int .u64 t.1, .int .u64 t.2.1, .int .u64 t.2.2.1, .int .u64 t.2.2.2] 42 (0, 0))) (hvg : vb ≠ g) (hbase : base ≤ V.heap.size) (hi : i = n) :
  Calls Tryz.prog 34 #[.slice (some ⟨g, 0, none⟩) n c, .int .i64 i, .slice (some ⟨vb, 0, none⟩) 1 1] V (GivesIns (L.take i ++ t :: L.drop i) base g V) := by
 subst hi
 have hlen : (L.take i ++ t :: L.drop i).length = i + 1 := by simp; omega
 have HE : Hid (L.take i ++ t :: L.drop i = L ++ [t]) := hid (by rw [List.take_of_length_le (by omega), List.drop_eq_nil_of_le (by omega)])
 have HLE := hid hlen
 have H := hid h
 have hl := (Leads.of_own1 h).len
 have hic : i ≤ c := (Leads.of_own1 h).1
 have HVC : Hid (∀ (k : Nat) u, (nd4 t)[k]? = some u → V.cell? ⟨vb, k, none⟩ = some u) := hid (fun k u hk => clD hv (by simpa [nd4] using hk))
 clear h hlen hv hln
 obtain ⟨A, hA⟩ : ∃ A : Option Addr, A = (if c = i then some ⟨g, 0, none⟩ else some ⟨g, i * 4, none⟩) := ⟨_, rfl⟩
 have mE : (if c = i then (some ⟨g, 0, none⟩ : Option Addr) else some ⟨g, i * 4, none⟩) = A := hA.symm
 clear hA
 go_enter Tryz.func34, Tryz.ntmps34
 go_wp2_with (at_builtin; refine waM elemNd rfl _ _ rfl base _ _ _ rfl H.out ⟨vb, 0, none⟩ 1 1 (nd4 t) rfl ?qc1 ?qc2 ?qc3 ?qc4 ?qc5 ?_)
 case qc1 => rfl
 case qc2 =>
  intro j u hj
  rw [Addr.add_lit, Nat.zero_add]
  exact HVC.out j u hj
 case qc3 => exact nd4_one t
 case qc4 => omega
 case qc5 => exact hbase
 intro v' w1 hown hgrow hmv
 have HO := hid hown
 have HG := hid hgrow
 clear hown hgrow hmv
 go_wp2
 go_ret
 exact ⟨v', rfl, by rw [HLE.out, HE.out, ndcells_snoc]; exact HO.out, HG.out⟩
set_option maxRecDepth 100000 in
set_option maxHeartbeats 8000000 in
/-- In the midst, with room to spare. -/
theorem InsRoom_any (L : List Nd) (t : Nd) (g n c i vb base : Nat) (V : World) (h : V.ownsRow base 42 4 (.slice (some ⟨g, 0, none⟩) n c) n (ndcells L)) (hln : L.length = n) (hn : n ≤ 5000) (hv : V.heap[vb]? = some (.cells #[.int .u64 t.1, .int .u64 t.2.1, .int .u64 t.2.2.1, .int .u64 t.2.2.2] 42 (0, 0))) (hvg : vb ≠ g) (hbase : base ≤ V.heap.size) (hi : i < n) (hroom : n + 1 ≤ c) :
  Calls Tryz.prog 34 #[.slice (some ⟨g, 0, none⟩) n c, .int .i64 i, .slice (some ⟨vb, 0, none⟩) 1 1] V (GivesIns (L.take i ++ t :: L.drop i) base g V) := by
 obtain ⟨-, ⟨h, -⟩ | ⟨g', cap', cur, he, hbg, hG, hnc, hcm, hcs, hct⟩⟩ := h
 ·cases h
 simp only [Value.slice.injEq, Option.some.injEq, Addr.mk.injEq, and_true, true_and] at he
 obtain ⟨rfl, rfl⟩ := he
 obtain ⟨j, hj⟩ : ∃ j, j = i + 1 := ⟨_, rfl⟩
 obtain ⟨N, hN⟩ : ∃ N, N = n + 1 := ⟨_, rfl⟩
 have hcell : ∀ k, k < n * 4 → cur[k]? = (ndcells L)[k]? := by
  intro k hk
  rw [← hct, List.getElem?_take, if_pos hk, Array.getElem?_toList]
 have hdl : (ndcells (L.drop i)).length = (n - i) * 4 := by rw [ndcells_len, List.length_drop, hln]; omega
 have hl63 : c ≤ 9223372036854775807 := hcm
 have hGd : V.drew.heap[g]? = some (.cells cur 42 (0, 0)) := hG
 obtain ⟨W1, hW1⟩ : ∃ W1, W1 = V.drew.setCells g (j * 4) (ndcells (L.drop i)) := ⟨_, rfl⟩
 obtain ⟨cur1, c1, c2, c3, c4, c5, c6⟩ := setCells_at (ndcells (L.drop i)) (j * 4) V.drew cur hGd
 rw [← hW1] at c1 c5 c6
 obtain ⟨W2, hW2⟩ : ∃ W2, W2 = W1.setCells g (i * 4) (nd4 t) := ⟨_, rfl⟩
 obtain ⟨cur2, d1, d2, d3, d4, d5, d6⟩ := setCells_at (nd4 t) (i * 4) W1 cur1 c1
 rw [← hW2] at d1 d5 d6
 have hov : ∀ lb cb, (callFunc 51 #[.slice (some ⟨vb, 0, none⟩) 1 1, .slice (some ⟨g, j * 4, none⟩) lb cb]).run Tryz.prog V = .ok (.value (.bool false)) V := fun lb cb => by
  rw [run_callFunc_extern Tryz.func51 (by kernel_rfl) (by kernel_rfl) (by kernel_rfl) (e := Extern.SlicesOverlaps.overlaps #[36, 36] #[4]) (by kernel_rfl),
   Lib.run_overlaps_apart V 36 4 42 Tryz.underlying36 4 Tryz.sizeOf42 ⟨vb, 0, none⟩ ⟨g, j * 4, none⟩ 1 1 lb cb hvg 42 42 4 cur.size (by simp [World.shape?, hv]) (by simp [World.shape?, hG]) (by omega) (flD hv) (flD (i := 4) hv)]
  rfl
 have hsz : (Tryz.prog.info? 42).map (·.size) = some 4 := by kernel_rfl
 have hcp1 : ∀ ty dc sc, (Builtin.copy_ #[36, 36] ty #[.slice (some ⟨g, j * 4, none⟩) (N - j) dc, .slice (some ⟨g, i * 4, none⟩) (N - i) sc]).run Tryz.prog V.drew = .ok (goInt (n - i : Nat)) W1 := fun ty dc sc => by
  rw [hW1]
  refine run_copy_wide V.drew _ _ ty 42 4 g (j * 4) (N - j) dc ⟨g, i * 4, none⟩ (N - i) sc (n - i) (ndcells (L.drop i)) Tryz.underlying36 hsz (by simp only [Nat.min_def]; split <;> omega) hdl ?_ ?_ ?_ (ndcells_one _)
  ·intro k u hu
   have hk : k < (n - i) * 4 := by
    have := (List.getElem?_eq_some_iff.1 hu).1
    rwa [hdl] at this
   rw [Addr.add_lit]
   refine at_block hGd ?_
   rw [hcell _ (by omega)]
   rw [← ndcells_drop, List.getElem?_drop] at hu
   exact hu
  ·intro k hk
   rw [hdl] at hk
   obtain ⟨v, hv⟩ : ∃ v, cur[j * 4 + k]? = some v := ⟨_, Array.getElem?_eq_getElem (by omega)⟩
   rw [at_block hGd hv]; rfl
  ·exact fun k hk => flD hGd
 have hvd : W1.heap[vb]? = some (.cells #[.int .u64 t.1, .int .u64 t.2.1, .int .u64 t.2.2.1, .int .u64 t.2.2.2] 42 (0, 0)) := c5 vb _ hvg hv
 have hcp2 : ∀ (W : World), W = W1 → ∀ ty dc, (Builtin.copy_ #[36, 36] ty #[.slice (some ⟨g, i * 4, none⟩) (N - i) dc, .slice (some ⟨vb, 0, none⟩) 1 1]).run Tryz.prog W = .ok (goInt (1 : Nat)) W2 := fun W hW ty dc => by
  rw [hW2, hW]
  refine run_copy_wide W1 _ _ ty 42 4 g (i * 4) (N - i) dc ⟨vb, 0, none⟩ 1 1 1 (nd4 t) Tryz.underlying36 hsz (by simp only [Nat.min_def]; split <;> omega) rfl ?_ ?_ ?_ (nd4_one t)
  ·intro k u hu
   rw [Addr.add_lit, Nat.zero_add]
   exact clD hvd (by simpa [nd4] using hu)
  ·intro k hk
   have hk4 : k < 4 := hk
   obtain ⟨v, hv⟩ : ∃ v, cur1[i * 4 + k]? = some v := ⟨_, Array.getElem?_eq_getElem (by omega)⟩
   rw [at_block c1 hv]; rfl
  ·exact fun k hk => flD c1
 have hlen : (L.take i ++ t :: L.drop i).length = N := by simp; omega
 have hend : Hid (W2.ownsRow base 42 4 (.slice (some ⟨g, 0, none⟩) N c) N (ndcells (L.take i ++ t :: L.drop i)) ∧ V.grownBy W2 (some g)) := hid (by
  refine ⟨⟨by rw [ndcells_len, hlen]; omega, .inr ⟨g, c, cur2, rfl, hbg, d1, by omega, hcm, by rw [d2, c2, hcs], ?_⟩⟩, ?_⟩
  ·rw [hN]
   refine ins_cells L t i n (Nat.le_of_lt hi) hln cur2 (by rw [d2, c2, hcs]; omega) ?_ ?_ ?_
   ·intro k hk
    rw [d3 k (.inl hk), c3 k (.inl (by omega)), hcell k (by omega)]
   ·intro k v hk
    have hk4 : k < 4 := (List.getElem?_eq_some_iff.1 hk).1
    exact d4 k v hk (by rw [c2, hcs]; omega)
   ·intro k v hk
    have hk4 : k < (n - i) * 4 := by
     have := (List.getElem?_eq_some_iff.1 hk).1
     rwa [hdl] at this
    have h4 : (nd4 t).length = 4 := rfl
    rw [← hj, d3 _ (.inr (by omega))]
    exact c4 k v hk (by rw [hcs]; omega)
  ·rw [hW2, hW1]
   exact grownBy_trans (grownBy_trans (show V.grownBy V.drew (some g) from ⟨rfl, rfl, rfl, Nat.le_refl _, fun _ _ _ => rfl⟩) (grownBy_setCells g _ _ _)) (grownBy_setCells g _ _ _))
 have e1 : IntKind.i64.wrap ((n : Int) + 1) = ((N : Nat) : Int) := by rw [IntKind.wrap_i64]; omega
 have e2 : IntKind.i64.wrap ((i : Int) + 1) = ((j : Nat) : Int) := by rw [IntKind.wrap_i64]; omega
 have t1 : decide ((c : Int) < (N : Int)) = false := by simp; omega
 have t1' : ¬ ((c : Int) < (N : Int)) := by omega
 have t2 : ((i : Int) == (n : Int)) = false := by simp; omega
 have t2' : ¬ ((i : Int) = (n : Int)) := by omega
 have k1 : N ≤ c := by omega
 have k2 : j ≤ N := by omega
 have k3 : i ≤ N := by omega
 have k4 : ¬ (c = j) := by omega
 have k5 : ¬ (c = i) := by omega
 have k6 : j ≤ c := by omega
 have k7 : i ≤ c := by omega
 have k8 : i ≤ n := by omega
 have k9 : n ≤ c := by omega
 have HLEN := hid hlen
 have mixed : Tryz.prog.follows .mixedOrders = true := by kernel_rfl
 clear hG hGd c1 c2 c3 c4 c5 c6 d1 d2 d3 d4 d5 d6 hW1 hW2 hcell hct hcs hln hdl hbg hN hj hv hvd hroom hi hlen hsz hcm
 go_enter Tryz.func34, Tryz.ntmps34
 go_wp2_with (simp only [hov])
 go_region_law_o (refine step_copy_runI rfl _ _ 36 36 rfl _ _ (by simp [Act.eval, Act.put]) (by simp [Act.eval, Act.put]) (hcp1 _ _ _) ?_)
 go_wp2_with (at_builtin; refine wpList_copy_runI _ rfl _ _ 36 36 rfl _ _ rfl rfl (hcp2 _ rfl _ _) ?_)
 go_ret
 exact ⟨_, rfl, by rw [HLEN.out]; exact hend.out.1, hend.out.2⟩
set_option maxRecDepth 100000 in
set_option maxHeartbeats 8000000 in
/-- In the midst, with no room to spare. -/
theorem InsGrow_any (L : List Nd) (t : Nd) (g n c i vb base : Nat) (V : World) (h : V.ownsRow base 42 4 (.slice (some ⟨g, 0, none⟩) n c) n (ndcells L)) (hln : L.length = n) (hn : n ≤ 5000) (hv : V.heap[vb]? = some (.cells #[.int .u64 t.1, .int .u64 t.2.1, .int .u64 t.2.2.1, .int .u64 t.2.2.2] 42 (0, 0))) (hvg : vb ≠ g) (hbase : base ≤ V.heap.size) (hi : i < n) (hroom : c < n + 1) :
  Calls Tryz.prog 34 #[.slice (some ⟨g, 0, none⟩) n c, .int .i64 i, .slice (some ⟨vb, 0, none⟩) 1 1] V (GivesIns (L.take i ++ t :: L.drop i) base g V) := by
 obtain ⟨-, ⟨h, -⟩ | ⟨g', cap', cur, he, hbg, hG, hnc, hcm, hcs, hct⟩⟩ := h
 ·cases h
 simp only [Value.slice.injEq, Option.some.injEq, Addr.mk.injEq, and_true, true_and] at he
 obtain ⟨rfl, rfl⟩ := he
 obtain ⟨j, hj⟩ : ∃ j, j = i + 1 := ⟨_, rfl⟩
 obtain ⟨N, hN⟩ : ∃ N, N = n + 1 := ⟨_, rfl⟩
 obtain ⟨K, hK⟩ : ∃ K, K = N - i := ⟨_, rfl⟩
 have hik : i + K = N := by omega
 have hgs : g < V.heap.size := llD hG
 have hvs : vb < V.heap.size := llD hv
 have hcell : ∀ k, k < n * 4 → cur[k]? = (ndcells L)[k]? := by
  intro k hk
  rw [← hct, List.getElem?_take, if_pos hk, Array.getElem?_toList]
 have hdl : (ndcells (L.drop i)).length = (n - i) * 4 := by rw [ndcells_len, List.length_drop, hln]; omega
 have htl : (ndcells (L.take i)).length = i * 4 := by rw [ndcells_len, List.length_take]; omega
 have hl63 : c ≤ 9223372036854775807 := hcm
 obtain ⟨i0, z, hi0, hz0, hzs, hzb, hzc⟩ := elemNd.info
 have hold : (Builtin.firstCells i0.size i (.slice (some ⟨g, 0, none⟩) i c)).run Tryz.prog V.drew = .ok (ndcells (L.take i)).toArray V.drew := by
  rw [hzs]
  exact run_firstCells_some V.drew 4 i ⟨g, 0, none⟩ i c (ndcells (L.take i)) htl (fun k u hk => by
   rw [Addr.add_lit, Nat.zero_add]
   have h4 : k < i * 4 := by
    have := (List.getElem?_eq_some_iff.1 hk).1
    rwa [htl] at this
   have hGd : V.drew.heap[g]? = some (.cells cur 42 (0, 0)) := hG
   refine at_block hGd ?_
   rw [hcell k (by omega)]
   rw [← ndcells_take, List.getElem?_take, if_pos h4] at hk
   exact hk)
 obtain ⟨G, hGe⟩ : ∃ G, G = grownCap V N c 42 := ⟨_, rfl⟩
 obtain ⟨ROW, hROW⟩ : ∃ ROW : Array Value, ROW = (ndcells (L.take i)).toArray ++ Builtin.zeroCells z.cells K ++ Builtin.zeroCells z.cells (G - N) := ⟨_, rfl⟩
 obtain ⟨Y, hY⟩ := nm (V.heap.size)
 have hrz : ∀ ty, (Builtin.append_ #[36, 3] ty #[.slice (some ⟨g, 0, none⟩) i c, .int .i64 K]).run Tryz.prog V = .ok (.slice (some ⟨Y, 0, none⟩) N G) (V.drew.alloc (.cells ROW 42)) := fun ty => by
  have h := Lib.run_append_grow_zeros V 36 3 ty 42 i0 z .i64 .i64 Tryz.underlying36 (by kernel_rfl) hi0 hz0 (some ⟨g, 0, none⟩) i c (ndcells (L.take i)) hold K (by omega) (by omega) (by omega) (by omega) (by rw [hzb]; omega) (by rw [hzb, hik]; exact growslice_fits (by omega) (by omega))
  rw [hik, ← hGe, hY] at h
  rw [hROW]
  exact h
 have hGn : N ≤ G := by rw [hGe]; exact grownCap_ge V _ _ _
 have hG63 : G ≤ 9223372036854775807 := by
  have := grownCap_le_maxLen V N c 42 (by unfold maxLen; omega)
  rw [← hGe] at this
  unfold maxLen at this
  omega
 have hRs : ROW.size = G * 4 := by
  rw [hROW]
  simp only [Array.size_append, List.size_toArray, Builtin.zeroCells, Array.size_map, Array.size_range, hzc, htl]
  omega
 have hRl : ∀ k, k < i * 4 → ROW[k]? = (ndcells (L.take i))[k]? := by
  intro k hk
  rw [hROW, Array.append_assoc, Array.getElem?_append_left (by simpa [htl] using hk), List.getElem?_toArray]
 obtain ⟨W0, hW0⟩ : ∃ W0, W0 = V.drew.alloc (.cells ROW 42) := ⟨_, rfl⟩
 have hG0 : W0.heap[Y]? = some (.cells ROW 42 (0, 0)) := by rw [hW0, ← hY]; show (V.heap.push _)[V.heap.size]? = _; simp
 have hb0 : Below V.heap.size V W0 := by rw [hW0]; exact (Below.refl _ _).drew.alloc (Nat.le_refl _) _
 obtain ⟨W1, hW1⟩ : ∃ W1, W1 = W0.setCells Y (i * 4) (nd4 t) := ⟨_, rfl⟩
 obtain ⟨cur1, c1, c2, c3, c4, c5, c6⟩ := setCells_at (nd4 t) (i * 4) W0 ROW hG0
 rw [← hW1] at c1 c5 c6
 have c1d : W1.drew.heap[Y]? = some (.cells cur1 42 (0, 0)) := c1
 obtain ⟨W2, hW2⟩ : ∃ W2, W2 = W1.drew.setCells Y (j * 4) (ndcells (L.drop i)) := ⟨_, rfl⟩
 obtain ⟨cur2, d1, d2, d3, d4, d5, d6⟩ := setCells_at (ndcells (L.drop i)) (j * 4) W1.drew cur1 c1d
 rw [← hW2] at d1 d5 d6
 have hsz : (Tryz.prog.info? 42).map (·.size) = some 4 := by kernel_rfl
 have hv0 : W0.heap[vb]? = some (.cells #[.int .u64 t.1, .int .u64 t.2.1, .int .u64 t.2.2.1, .int .u64 t.2.2.2] 42 (0, 0)) := klD hv hb0
 have hg0 : W0.heap[g]? = some (.cells cur 42 (0, 0)) := klD hG hb0
 have hg1 : W1.drew.heap[g]? = some (.cells cur 42 (0, 0)) := c5 g _ (by omega) hg0
 have hcp1 : ∀ (W : World), W = W0 → ∀ ty dc, (Builtin.copy_ #[36, 36] ty #[.slice (some ⟨Y, i * 4, none⟩) (N - i) dc, .slice (some ⟨vb, 0, none⟩) 1 1]).run Tryz.prog W = .ok (goInt (1 : Nat)) W1 := fun W hW ty dc => by
  rw [hW1, hW]
  refine run_copy_wide W0 _ _ ty 42 4 Y (i * 4) (N - i) dc ⟨vb, 0, none⟩ 1 1 1 (nd4 t) Tryz.underlying36 hsz (by simp only [Nat.min_def]; split <;> omega) rfl ?_ ?_ ?_ (nd4_one t)
  ·intro k u hu
   rw [Addr.add_lit, Nat.zero_add]
   exact clD hv0 (by simpa [nd4] using hu)
  ·intro k hk
   have hk4 : k < 4 := hk
   obtain ⟨v, hv⟩ : ∃ v, ROW[i * 4 + k]? = some v := ⟨_, Array.getElem?_eq_getElem (by omega)⟩
   rw [at_block hG0 hv]; rfl
  ·exact fun k hk => flD hG0
 have hcp2 : ∀ ty dc sc, (Builtin.copy_ #[36, 36] ty #[.slice (some ⟨Y, j * 4, none⟩) (N - j) dc, .slice (some ⟨g, i * 4, none⟩) (n - i) sc]).run Tryz.prog W1.drew = .ok (goInt (n - i : Nat)) W2 := fun ty dc sc => by
  rw [hW2]
  refine run_copy_wide W1.drew _ _ ty 42 4 Y (j * 4) (N - j) dc ⟨g, i * 4, none⟩ (n - i) sc (n - i) (ndcells (L.drop i)) Tryz.underlying36 hsz (by simp only [Nat.min_def]; split <;> omega) hdl ?_ ?_ ?_ (ndcells_one _)
  ·intro k u hu
   have hk : k < (n - i) * 4 := by
    have := (List.getElem?_eq_some_iff.1 hu).1
    rwa [hdl] at this
   rw [Addr.add_lit]
   refine at_block hg1 ?_
   rw [hcell _ (by omega)]
   rw [← ndcells_drop, List.getElem?_drop] at hu
   exact hu
  ·intro k hk
   rw [hdl] at hk
   obtain ⟨v, hv⟩ : ∃ v, cur1[j * 4 + k]? = some v := ⟨_, Array.getElem?_eq_getElem (by omega)⟩
   rw [at_block c1d hv]; rfl
  ·exact fun k hk => flD c1d
 have hlen : (L.take i ++ t :: L.drop i).length = N := by simp; omega
 have hend : Hid (W2.ownsRow base 42 4 (.slice (some ⟨Y, 0, none⟩) N G) N (ndcells (L.take i ++ t :: L.drop i)) ∧ V.grownBy W2 (some g)) := hid (by
  refine ⟨⟨by rw [ndcells_len, hlen]; omega, .inr ⟨Y, G, cur2, rfl, by omega, d1, hGn, hG63, by rw [d2, c2, hRs], ?_⟩⟩, ?_⟩
  ·rw [hN]
   refine ins_cells L t i n (Nat.le_of_lt hi) hln cur2 (by rw [d2, c2, hRs]; omega) ?_ ?_ ?_
   ·intro k hk
    rw [d3 k (.inl (by omega)), c3 k (.inl hk), hRl k hk, ← ndcells_take, List.getElem?_take, if_pos hk]
   ·intro k v hk
    have hk4 : k < 4 := (List.getElem?_eq_some_iff.1 hk).1
    rw [d3 _ (.inl (by omega))]
    exact c4 k v hk (by rw [hRs]; omega)
   ·intro k v hk
    have hk4 : k < (n - i) * 4 := by
     have := (List.getElem?_eq_some_iff.1 hk).1
     rwa [hdl] at this
    rw [← hj]
    exact d4 k v hk (by rw [c2, hRs]; omega)
  ·have hb2 : Below V.heap.size V W2 := d6 _ _ (by omega) (c6 _ _ (by omega) hb0).drew
   exact ⟨hb2.os, hb2.tape, hb2.output, hb2.size, fun k hk _ => hb2.block k hk⟩)
 have e1 : IntKind.i64.wrap ((n : Int) + 1) = ((N : Nat) : Int) := by rw [IntKind.wrap_i64]; omega
 have e2 : IntKind.i64.wrap ((i : Int) + 1) = ((j : Nat) : Int) := by rw [IntKind.wrap_i64]; omega
 have e3 : IntKind.i64.wrap ((N : Int) - (i : Int)) = ((K : Nat) : Int) := by rw [IntKind.wrap_i64]; omega
 have t1 : decide ((c : Int) < (N : Int)) = true := by simp; omega
 have t1' : (c : Int) < (N : Int) := by omega
 have t2 : ((i : Int) == (n : Int)) = false := by simp; omega
 have t2' : ¬ ((i : Int) = (n : Int)) := by omega
 have k2 : j ≤ N := by omega
 have k3 : i ≤ N := by omega
 have k4 : ¬ (G = j) := by omega
 have k5 : ¬ (c = i) := by omega
 have k5' : ¬ (G = i) := by omega
 have k6 : j ≤ G := by omega
 have k7 : i ≤ c := by omega
 have k8 : i ≤ n := by omega
 have k9 : n ≤ c := by omega
 have k10 : i ≤ G := by omega
 have HLEN := hid hlen
 have mixed : Tryz.prog.follows .mixedOrders = true := by kernel_rfl
 rw [← hW0] at hrz
 clear hG hv hb0 hG0 c1 c1d c2 c3 c4 c5 c6 d1 d2 d3 d4 d5 d6 hW0 hW1 hW2 hcell hct hcs hln hdl htl hbg hN hj hv0 hg0 hg1 hroom hi hlen hsz hcm hY hRs hRl hROW hGe hold hi0 hz0 hzs hzb hzc hik hK hgs hvs
 go_enter Tryz.func34, Tryz.ntmps34
 go_wp2_with (first
  | (at_builtin; refine Lib.wpList_append_run _ rfl _ _ _ _ rfl _ _ rfl rfl _ _ (hrz _) ?_)
  | (at_builtin; refine wpList_copy_runI _ rfl _ _ 36 36 rfl _ _ rfl rfl (hcp1 _ rfl _ _) ?_))
 go_region_law_o (refine step_copy_runI rfl _ _ 36 36 rfl _ _ (by simp [Act.eval, Act.put]) (by simp [Act.eval, Act.put]) (hcp2 _ _ _) ?_)
 go_wp2
 go_ret
 exact ⟨_, rfl, by rw [HLEN.out]; exact hend.out.1, hend.out.2⟩
theorem Ins_any (L : List Nd) (t : Nd) (g n c i vb base : Nat) (V : World) (h : V.ownsRow base 42 4 (.slice (some ⟨g, 0, none⟩) n c) n (ndcells L)) (hln : L.length = n) (hn : n ≤ 5000) (hv : V.heap[vb]? = some (.cells #[.int .u64 t.1, .int .u64 t.2.1, .int .u64 t.2.2.1, .int .u64 t.2.2.2] 42 (0, 0))) (hvg : vb ≠ g) (hbase : base ≤ V.heap.size) (hi : i ≤ n) :
  Calls Tryz.prog 34 #[.slice (some ⟨g, 0, none⟩) n c, .int .i64 i, .slice (some ⟨vb, 0, none⟩) 1 1] V (GivesIns (L.take i ++ t :: L.drop i) base g V) := by
 rcases Nat.eq_or_lt_of_le hi with e | e
 ·exact InsEnd_any L t g n c i vb base V h hln hn hv hvg hbase e
 ·by_cases hr : n + 1 ≤ c
  ·exact InsRoom_any L t g n c i vb base V h hln hn hv hvg hbase e hr
  ·exact InsGrow_any L t g n c i vb base V h hln hn hv hvg hbase e (by omega)
end Go.Proofs.YtipohagcppfgiaaGreat
namespace Go.Proofs.YtipohagcppfgiaaGreat
open Go.RowKit
open Go.Proofs
set_option linter.unusedVariables false
theorem editE_store {M : Mem} {s : Ede} (k q new : Nat) (hph : s.ph = k) (hk : k < 6) (h4 : k ≠ 4) (hq : (needE s k).2.1 = q) (hn : (needE s k).2.2 = new) (hl : liveN M q = true) :
  editE M s = (⟨M.W.set q new, M.L, M.F⟩, { s with ph := nextE k }, true) := by
 have e : s.ph.toNat = k := by omega
 have e1 : (s.ph != 4) = true := by simp; omega
 unfold editE
 rw [if_neg (by omega), e, hq, hn, e1, store_live hl, if_pos rfl, if_neg (by omega)]
theorem editE_load {M : Mem} {s : Ede} (q : Nat) (hph : s.ph = 4) (hq : posL s.at_ 2 = q) (hl : liveN M q = true) :
  editE M s = (M, { s with ph := 5, next := M.W.getD q 0 }, true) := by
 have e : s.ph.toNat = 4 := by omega
 have e1 : (s.ph != 4) = false := by simp; omega
 unfold editE
 rw [if_neg (by omega), e, e1]
 show ((stepM M false ((posL s.at_ 2 : Nat) : Int) 0).1, (if (stepM M false ((posL s.at_ 2 : Nat) : Int) 0).2.2 = true then ({ s with ph := 5, next := if s.ph = 4 then (stepM M false ((posL s.at_ 2 : Nat) : Int) 0).2.1 else s.next } : Ede) else { s with ph := 7 }), true) = _
 rw [hq, load_live hl, if_pos rfl, if_pos hph]
/-- Where who seeks ends: its link is the head's, or a node's. -/
theorem findS_link {hash key : Nat} : ∀ (link : Nat) (xs : List Nd), (findS hash key link xs).1.link = link ∨ ∃ x ∈ xs, (findS hash key link xs).1.link = x.1 + 2
 | link, [] => .inl rfl
 | link, x :: r => by
  have hr := findS_link (hash := hash) (key := key) (x.1 + 2) r
  have hx : (findS hash key (x.1 + 2) r).1.link = link ∨ ∃ y ∈ x :: r, (findS hash key (x.1 + 2) r).1.link = y.1 + 2 := by
   rcases hr with h | ⟨y, hy, h⟩
   ·exact .inr ⟨x, List.mem_cons_self .., h⟩
   ·exact .inr ⟨y, List.mem_cons_of_mem _ hy, h⟩
  unfold findS
  split
  ·exact hx
  ·split
   ·exact .inl rfl
   ·split
    ·exact hx
    ·split <;> exact .inl rfl
theorem chain_live {M : Mem} (hok : okM M = true) : ∀ (p : Nat) (xs : List Nd), ChainP M p xs → ∀ x ∈ xs, x.1 < 4096 ∧ (∀ k, k < 4 → liveN M (posL x.1 k) = true) ∧ posL (x.1 + 2) 0 = posL x.1 2
 | p, [], h, x, hx => by cases hx
 | p, y :: r, h, x, hx => by
  obtain ⟨h1, h2, h3, h4⟩ := h
  rcases List.mem_cons.1 hx with rfl | hx
  ·obtain ⟨q1, q2, q3⟩ := live_small hok (h3 2 (by decide))
   have e : x.1 = p := by rw [h1]; rfl
   rw [e]
   obtain ⟨o1, o2, -⟩ := okM_spec hok
   exact ⟨q1, h3, by rw [q2]; unfold posL; omega⟩
  ·exact chain_live hok _ r h4 x hx
theorem link_live {M : Mem} {head hash key : Nat} {xs : List Nd} (hok : okM M = true) (h : nodesR M head = some xs) : liveN M (posL (findS hash key head xs).1.link 0) = true := by
 obtain ⟨hw, -⟩ := nodesR_some h
 obtain ⟨h1, h2⟩ := nodesW_chain hw
 rcases findS_link (hash := hash) (key := key) head xs with e | ⟨x, hx, e⟩
 ·rw [e]; exact h1
 ·obtain ⟨-, q2, q3⟩ := chain_live hok _ _ h2 x hx
  rw [e, q3]; exact q2 2 (by decide)
theorem fitsP_spec {M : Mem} {head : Nat} {xs : List Nd} {t : Nd} (h : fitsP M head xs t = true) : t.1 ≠ 0 ∧ ∀ k, k < 4 → liveN M (posL t.1 k) = true ∧ posL t.1 k ∉ wordsL head xs := by
 unfold fitsP at h
 rw [Bool.and_eq_true, decide_eq_true_eq, List.all_eq_true] at h
 refine ⟨h.1, fun k hk => ?_⟩
 have := h.2 k (by simp [List.mem_range']; omega)
 rw [Bool.and_eq_true, Bool.not_eq_true', decide_eq_false_iff_not] at this
 exact this
theorem nodesP_some {M : Mem} {head : Nat} {xs : List Nd} (hok : okM M = true) (h : nodesR M head = some xs) : nodesP M head = (xs, 0) := by
 unfold nodesP
 rw [hok, if_neg (by decide), h]
theorem nodesP_none {M : Mem} {head : Nat} (hok : okM M = true) (h : nodesR M head = none) : nodesP M head = ([], 250) := by
 unfold nodesP
 rw [hok, if_neg (by decide), h]
end Go.Proofs.YtipohagcppfgiaaGreat
namespace Go.Proofs.YtipohagcppfgiaaGreat
open Go.RowKit
open Go.Proofs
set_option linter.unusedVariables false
def rdL (W : List Nat) (a : Nat) : Nat := W.getD a 0
theorem rdL_set {W : List Nat} {j v i : Nat} (hj : j < W.length) : rdL (W.set j v) i = if i = j then v else rdL W i := by
 unfold rdL
 rw [List.getD_eq_getElem?_getD, List.getD_eq_getElem?_getD, List.getElem?_set]
 by_cases h : j = i
 ·subst h; rw [if_pos rfl, if_pos hj, if_pos rfl]; rfl
 ·rw [if_neg h, if_neg (fun e => h e.symm)]
theorem rdL_same {W : List Nat} {j v : Nat} (hj : j < W.length) : rdL (W.set j v) j = v := by rw [rdL_set hj, if_pos rfl]
theorem rdL_other {W : List Nat} {j v i : Nat} (hj : j < W.length) (h : i ≠ j) : rdL (W.set j v) i = rdL W i := by rw [rdL_set hj, if_neg h]
abbrev w4L (x : Nd) : List Nat := [posL x.1 0, posL x.1 1, posL x.1 2, posL x.1 3]
def wlL (xs : List Nd) : List Nat := xs.flatMap fun x => [posL x.1 0, posL x.1 1, posL x.1 2, posL x.1 3]
theorem wlL_cons (t : Nd) (xs : List Nd) : wlL (t :: xs) = w4L t ++ wlL xs := by simp [wlL]
theorem wlL_append (xs ys : List Nd) : wlL (xs ++ ys) = wlL xs ++ wlL ys := by simp [wlL]
theorem wordsL_eq (head : Nat) (xs : List Nd) : wordsL head xs = posL head 0 :: wlL xs := rfl
theorem mem_w4L (t : Nd) (k : Nat) (hk : k < 4) : posL t.1 k ∈ w4L t := by
 match k, hk with
 | 0, _ => simp
 | 1, _ => simp
 | 2, _ => simp
 | 3, _ => simp
theorem mem_wlL {t : Nd} {xs : List Nd} (h : t ∈ xs) (k : Nat) (hk : k < 4) : posL t.1 k ∈ wlL xs := List.mem_flatMap.2 ⟨t, h, mem_w4L t k hk⟩
/-- Links that lead on from a word. -/
def lnkL (W : List Nat) : Nat → List Nd → Prop
 | a, [] => rdL W a = 0
 | a, t :: ts => rdL W a = t.1 ∧ t.1 ≠ 0 ∧ rdL W (posL t.1 0) = t.2.1 ∧ rdL W (posL t.1 1) = t.2.2.1 ∧ rdL W (posL t.1 3) = t.2.2.2 ∧ lnkL W (posL t.1 2) ts
theorem lnk_of {M : Mem} : ∀ (xs : List Nd) (a : Nat), ChainP M (rdL M.W a) xs → lnkL M.W a xs
 | [], a, h => h
 | x :: r, a, h => by
  obtain ⟨h1, h2, h3, h4⟩ := h
  have e : x.1 = rdL M.W a := by rw [h1]; rfl
  refine ⟨e.symm, by rw [e]; exact h2, ?_, ?_, ?_, lnk_of r _ ?_⟩
  ·rw [e]; rw [h1]; rfl
  ·rw [e]; rw [h1]; rfl
  ·rw [e]; rw [h1]; rfl
  ·rw [e]; exact h4
theorem lnk_to {M : Mem} : ∀ (xs : List Nd) (a : Nat), lnkL M.W a xs → (∀ w ∈ wlL xs, liveN M w = true) → ChainP M (rdL M.W a) xs
 | [], a, h, _ => h
 | x :: r, a, h, hl => by
  obtain ⟨h1, h2, h3, h4, h5, h6⟩ := h
  have hx : x = ndAt M (rdL M.W a) := by
   rw [h1]
   show x = (x.1, rdL M.W (posL x.1 0), rdL M.W (posL x.1 1), rdL M.W (posL x.1 3))
   rw [h3, h4, h5]
  refine ⟨hx, by rw [h1]; exact h2, fun k hk => ?_, ?_⟩
  ·rw [h1]; exact hl _ (mem_wlL (List.mem_cons_self ..) k hk)
  ·rw [h1]; exact lnk_to r _ h6 (fun w hw => hl w (by rw [wlL_cons]; exact List.mem_append_right _ hw))
theorem takeP_mk (M : Mem) (p : Nat) : ∀ (ks met : List Nat), (met ++ ks.map (posL p)).Nodup → (∀ k ∈ ks, liveN M (posL p k) = true) → takeP M p ks met = some (met ++ ks.map (posL p))
 | [], met, hn, hl => by simp [takeP]
 | k :: ks, met, hn, hl => by
  unfold takeP
  have h1 : posL p k ∉ met := by
   intro hm
   rw [List.nodup_append] at hn
   exact hn.2.2 _ hm _ (List.mem_map.2 ⟨k, List.mem_cons_self, rfl⟩) rfl
  rw [if_pos (by unfold freeB; rw [hl k List.mem_cons_self, decide_eq_false h1]; rfl)]
  rw [takeP_mk M p ks _ (by simpa using hn) (fun j hj => hl j (List.mem_cons_of_mem _ hj))]
  simp
theorem goW_mk {M : Mem} : ∀ (new : List Nd) (f place : Nat) (met : List Nat) (out : List Nd), ChainP M place new → (met ++ wlL new).Nodup → new.length < f → goW M f place met out = some (out ++ new)
 | _, 0, _, _, _, _, _, hf => by omega
 | [], f + 1, place, met, out, h1, hn, hf => by
  have h0 : place = 0 := h1
  subst h0
  rw [goW_zero]; simp
 | t :: ts, f + 1, place, met, out, h1, hn, hf => by
  obtain ⟨q1, q2, q3, q4⟩ := h1
  have e : t.1 = place := by rw [q1]; rfl
  rw [wlL_cons] at hn
  have hr : (List.range 4).map (posL place) = w4L t := by rw [← e]; rfl
  have ht := takeP_mk M place (List.range 4) met (by rw [hr]; rw [← List.append_assoc] at hn; exact (List.nodup_append.1 hn).1) (fun k hk => q3 k (List.mem_range.1 hk))
  rw [goW_some q2 ht, hr]
  rw [goW_mk ts f (wAt M place 2) (met ++ w4L t) (out ++ [ndAt M place]) q4 (by rw [List.append_assoc]; exact hn) (by simp at hf; omega)]
  rw [← q1]; simp
/-- A list lies so. -/
structure ChainL (M : Mem) (head : Nat) (xs : List Nd) : Prop where
 nd : (wordsL head xs).Nodup
 live : ∀ w ∈ wordsL head xs, liveN M w = true
 fw : lnkL M.W (posL head 0) xs
 inc : incr xs = true
theorem chain_of {M : Mem} {head : Nat} {xs : List Nd} (h : nodesR M head = some xs) : ChainL M head xs := by
 obtain ⟨hw, hi⟩ := nodesR_some h
 obtain ⟨h1, h2⟩ := nodesW_words hw
 exact ⟨h1, h2, lnk_of _ _ (nodesW_chain hw).2, hi⟩
theorem chain_len {M : Mem} {head : Nat} {xs : List Nd} (hok : okM M = true) (h : ChainL M head xs) : 4 * xs.length + 1 ≤ 4096 := by
 obtain ⟨q1, q2, q3, -⟩ := okM_spec hok
 have := nodup_lt (n := M.L.length) h.nd (fun x hx => live_lt (h.live x hx))
 have e : (wordsL head xs).length = 4 * xs.length + 1 := by unfold wordsL; rw [List.length_cons, flat4_len]
 omega
theorem of_chain {M : Mem} {head : Nat} {xs : List Nd} (hok : okM M = true) (h : ChainL M head xs) : nodesR M head = some xs := by
 have hl := chain_len hok h
 have h0 : liveN M (posL head 0) = true := h.live _ (List.mem_cons_self ..)
 have ht := takeP_mk M head [0] [] (by simp) (fun k hk => by simp at hk; subst hk; exact h0)
 have hg := goW_mk xs 4101 (wAt M head 0) ([] ++ [0].map (posL head)) [] (lnk_to _ _ h.fw (fun w hw => h.live w (List.mem_cons_of_mem _ hw))) h.nd (by omega)
 unfold nodesR
 rw [nodesW_some ht, hg]
 dsimp only
 rw [List.nil_append, if_pos h.inc]
/-- Links that lead on from a word to another one. -/
def segL (W : List Nat) : Nat → List Nd → Prop
 | _, [] => True
 | a, t :: ts => rdL W a = t.1 ∧ t.1 ≠ 0 ∧ rdL W (posL t.1 0) = t.2.1 ∧ rdL W (posL t.1 1) = t.2.2.1 ∧ rdL W (posL t.1 3) = t.2.2.2 ∧ segL W (posL t.1 2) ts
def endL : Nat → List Nd → Nat
 | a, [] => a
 | _, t :: ts => endL (posL t.1 2) ts
def fstL : List Nd → Nat
 | [] => 0
 | t :: _ => t.1
theorem lnk_append {W : List Nat} : ∀ (l1 l2 : List Nd) (a : Nat), lnkL W a (l1 ++ l2) ↔ segL W a l1 ∧ lnkL W (endL a l1) l2
 | [], l2, a => by simp [segL, endL]
 | t :: ts, l2, a => by
  show (rdL W a = t.1 ∧ _ ∧ _ ∧ _ ∧ _ ∧ lnkL W (posL t.1 2) (ts ++ l2)) ↔ (rdL W a = t.1 ∧ _ ∧ _ ∧ _ ∧ _ ∧ segL W (posL t.1 2) ts) ∧ lnkL W (endL (posL t.1 2) ts) l2
  rw [lnk_append ts l2]
  constructor
  ·rintro ⟨a1, a2, a3, a4, a5, a6, a7⟩; exact ⟨⟨a1, a2, a3, a4, a5, a6⟩, a7⟩
  ·rintro ⟨⟨a1, a2, a3, a4, a5, a6⟩, a7⟩; exact ⟨a1, a2, a3, a4, a5, a6, a7⟩
theorem lnk_fst {W : List Nat} {a : Nat} {xs : List Nd} (h : lnkL W a xs) : rdL W a = fstL xs := by
 cases xs with
 | nil => exact h
 | cons t ts => exact h.1
theorem endL_mem : ∀ (l : List Nd) (a : Nat), endL a l ∈ a :: wlL l
 | [], a => List.mem_cons_self ..
 | t :: ts, a => by
  have := endL_mem ts (posL t.1 2)
  rw [wlL_cons]
  rcases List.mem_cons.1 this with h | h
  ·show endL (posL t.1 2) ts ∈ _
   rw [h]; simp
  ·exact List.mem_cons_of_mem _ (List.mem_append_right _ h)
theorem lnk_congr {W W' : List Nat} : ∀ (xs : List Nd) (a a' : Nat), lnkL W a xs → rdL W' a' = rdL W a → (∀ w ∈ wlL xs, rdL W' w = rdL W w) → lnkL W' a' xs
 | [], a, a', h, e, _ => by show rdL W' a' = 0; rw [e]; exact h
 | t :: ts, a, a', h, e, hw => by
  obtain ⟨q1, q2, q3, q4, q5, q6⟩ := h
  rw [wlL_cons] at hw
  have hm := fun k hk => hw _ (List.mem_append_left _ (mem_w4L t k hk))
  exact ⟨by rw [e]; exact q1, q2, by rw [hm 0 (by decide)]; exact q3, by rw [hm 1 (by decide)]; exact q4, by rw [hm 3 (by decide)]; exact q5, lnk_congr ts _ _ q6 (hm 2 (by decide)) (fun w h => hw w (List.mem_append_right _ h))⟩
theorem seg_congr {W W' : List Nat} : ∀ (l : List Nd) (a : Nat), segL W a l → (a :: wlL l).Nodup → (∀ w ∈ a :: wlL l, w ≠ endL a l → rdL W' w = rdL W w) → segL W' a l
 | [], a, h, _, _ => trivial
 | t :: ts, a, h, hn, hw => by
  obtain ⟨q1, q2, q3, q4, q5, q6⟩ := h
  have hE := endL_mem ts (posL t.1 2)
  have hn' := hn
  rw [wlL_cons] at hn'
  have hnn : (a :: posL t.1 0 :: posL t.1 1 :: posL t.1 2 :: posL t.1 3 :: wlL ts).Nodup := by simpa using hn'
  simp only [List.nodup_cons, List.mem_cons, not_or] at hnn
  obtain ⟨⟨a0, a1, a2, a3, a4⟩, ⟨b1, b2, b3, b4⟩, ⟨c2, c3, c4⟩, ⟨d3, d4⟩, e4, f⟩ := hnn
  have hE' : endL (posL t.1 2) ts = posL t.1 2 ∨ endL (posL t.1 2) ts ∈ wlL ts := List.mem_cons.1 hE
  have off : ∀ w, w ≠ posL t.1 2 → w ∉ wlL ts → w ≠ endL a (t :: ts) := by
   intro w h1 h2 h3
   have h3 : w = endL (posL t.1 2) ts := h3
   rcases hE' with h4 | h4
   ·exact h1 (by rw [h3, h4])
   ·exact h2 (by rw [h3]; exact h4)
  have mem : ∀ k, k < 4 → posL t.1 k ∈ a :: wlL (t :: ts) := fun k hk => List.mem_cons_of_mem _ (by rw [wlL_cons]; exact List.mem_append_left _ (mem_w4L t k hk))
  refine ⟨by rw [hw a (List.mem_cons_self ..) (off a a2 a4)]; exact q1, q2, ?_, ?_, ?_, seg_congr ts _ q6 ?_ ?_⟩
  ·rw [hw _ (mem 0 (by decide)) (off _ (by omega) b4)]; exact q3
  ·rw [hw _ (mem 1 (by decide)) (off _ (by omega) c4)]; exact q4
  ·rw [hw _ (mem 3 (by decide)) (off _ (by omega) e4)]; exact q5
  ·exact List.nodup_cons.2 ⟨d4, f⟩
  ·intro w h1 h2
   refine hw w ?_ h2
   rcases List.mem_cons.1 h1 with h1 | h1
   ·rw [h1]; exact mem 2 (by decide)
   ·exact List.mem_cons_of_mem _ (by rw [wlL_cons]; exact List.mem_append_right _ h1)
/-- The words of a list that is in two parts. -/
theorem words_append (head : Nat) (l1 l2 : List Nd) : wordsL head (l1 ++ l2) = (posL head 0 :: wlL l1) ++ wlL l2 := by rw [wordsL_eq, wlL_append]; simp
theorem lnk_ins {W W' : List Nat} {head : Nat} {l1 l2 : List Nd} {t : Nd} (hn : (wordsL head (l1 ++ l2)).Nodup) (hf : lnkL W (posL head 0) (l1 ++ l2)) (ht0 : t.1 ≠ 0)
  (hk : ∀ w ∈ wordsL head (l1 ++ l2), w ≠ endL (posL head 0) l1 → rdL W' w = rdL W w) (hE : rdL W' (endL (posL head 0) l1) = t.1)
  (h0 : rdL W' (posL t.1 0) = t.2.1) (h1 : rdL W' (posL t.1 1) = t.2.2.1) (h3 : rdL W' (posL t.1 3) = t.2.2.2) (h2 : rdL W' (posL t.1 2) = fstL l2) : lnkL W' (posL head 0) (l1 ++ t :: l2) := by
 rw [lnk_append] at hf ⊢
 rw [words_append] at hn hk
 obtain ⟨f1, f2⟩ := hf
 obtain ⟨n1, n2, n3⟩ := List.nodup_append.1 hn
 refine ⟨seg_congr _ _ f1 n1 (fun w hw => hk w (List.mem_append_left _ hw)), hE, ht0, h0, h1, h3, lnk_congr l2 _ _ f2 (by rw [h2, lnk_fst f2]) (fun w hw => hk w (List.mem_append_right _ hw) (fun e => n3 _ (endL_mem l1 _) _ hw e.symm))⟩
theorem lnk_rem {W W' : List Nat} {head : Nat} {l1 l2 : List Nd} {t : Nd} (hn : (wordsL head (l1 ++ t :: l2)).Nodup) (hf : lnkL W (posL head 0) (l1 ++ t :: l2))
  (hk : ∀ w ∈ wordsL head (l1 ++ t :: l2), w ≠ endL (posL head 0) l1 → rdL W' w = rdL W w) (hE : rdL W' (endL (posL head 0) l1) = fstL l2) : lnkL W' (posL head 0) (l1 ++ l2) := by
 rw [lnk_append] at hf ⊢
 rw [words_append] at hn hk
 obtain ⟨f1, -, -, -, -, -, f2⟩ := hf
 obtain ⟨n1, n2, n3⟩ := List.nodup_append.1 hn
 refine ⟨seg_congr _ _ f1 n1 (fun w hw => hk w (List.mem_append_left _ hw)), lnk_congr l2 _ _ f2 (by rw [hE, lnk_fst f2]) (fun w hw => ?_)⟩
 have hw' : w ∈ wlL (t :: l2) := by rw [wlL_cons]; exact List.mem_append_right _ hw
 exact hk w (List.mem_append_right _ hw') (fun e => n3 _ (endL_mem l1 _) _ hw' e.symm)
/-- What is cut leads on to where it led. -/
theorem lnk_mid {W : List Nat} {a : Nat} {l1 l2 : List Nd} {t : Nd} (hf : lnkL W a (l1 ++ t :: l2)) : rdL W (posL t.1 2) = fstL l2 := by
 rw [lnk_append] at hf
 exact lnk_fst hf.2.2.2.2.2.2
/-- Order. -/
theorem ahead_trans {a b c : Nd} (h : aheadN a b = true) (h' : aheadN b c = true) : aheadN a c = true := by
 unfold aheadN at *
 simp only [Bool.or_eq_true, Bool.and_eq_true, decide_eq_true_eq] at *
 omega
theorem ahead_iff (a b : Nd) : aheadN a b = true ↔ a.2.2.2 < b.2.2.2 ∨ (a.2.2.2 = b.2.2.2 ∧ a.2.1 < b.2.1) := by
 unfold aheadN
 simp only [Bool.or_eq_true, Bool.and_eq_true, decide_eq_true_eq]
theorem incr_pw : ∀ xs : List Nd, incr xs = true ↔ xs.Pairwise (fun a b => aheadN a b = true)
 | [] => by simp [incr]
 | [x] => by simp [incr]
 | x :: y :: r => by
  have ih := incr_pw (y :: r)
  unfold incr
  rw [Bool.and_eq_true, ih, List.pairwise_cons (l := y :: r)]
  constructor
  ·rintro ⟨h1, h2⟩
   refine ⟨fun z hz => ?_, h2⟩
   rcases List.mem_cons.1 hz with rfl | hz
   ·exact h1
   ·exact ahead_trans h1 ((List.pairwise_cons.1 h2).1 z hz)
  ·rintro ⟨h1, h2⟩
   exact ⟨h1 y (List.mem_cons_self ..), h2⟩
/-- The address of a list's last link. -/
def endA : Nat → List Nd → Nat
 | a, [] => a
 | _, t :: ts => endA (t.1 + 2) ts
theorem endA_word {M : Mem} (hok : okM M = true) : ∀ (l : List Nd) (a : Nat), (∀ w ∈ wlL l, liveN M w = true) → posL (endA a l) 0 = endL (posL a 0) l
 | [], a, _ => rfl
 | t :: ts, a, h => by
  rw [wlL_cons] at h
  have hl := h _ (List.mem_append_left _ (mem_w4L t 2 (by decide)))
  obtain ⟨q1, q2, q3⟩ := live_small hok hl
  obtain ⟨o1, o2, -⟩ := okM_spec hok
  have := endA_word hok ts (t.1 + 2) (fun w hw => h w (List.mem_append_right _ hw))
  show posL (endA (t.1 + 2) ts) 0 = endL (posL t.1 2) ts
  rw [this]
  have e : posL (t.1 + 2) 0 = posL t.1 2 := by rw [q2]; unfold posL; omega
  rw [e]
/-- Where who seeks stands: in front of it all is ahead. -/
theorem findS_split (hash key : Nat) : ∀ (link : Nat) (xs : List Nd), ∃ l1 l2, xs = l1 ++ l2 ∧ (findS hash key link xs).1.link = endA link l1 ∧ (findS hash key link xs).1.node = fstL l2 ∧
  (∀ x ∈ l1, x.2.2.2 < hash ∨ (x.2.2.2 = hash ∧ x.2.1 < key)) ∧
  ((findS hash key link xs).1.found = false → ∀ x r, l2 = x :: r → hash < x.2.2.2 ∨ (hash = x.2.2.2 ∧ key < x.2.1)) ∧
  ((findS hash key link xs).1.found = true → ∃ x r, l2 = x :: r ∧ x.2.1 = key ∧ x.2.2.2 = hash ∧ (findS hash key link xs).1.val = x.2.2.1)
 | link, [] => ⟨[], [], rfl, rfl, rfl, by simp, by intro _ x r h; (cases h), by intro h; cases h⟩
 | link, x :: r => by
  obtain ⟨l1, l2, e1, e2, e3, e4, e5, e6⟩ := findS_split hash key (x.1 + 2) r
  have on : (x.2.2.2 < hash ∨ (x.2.2.2 = hash ∧ x.2.1 < key)) → ∀ y ∈ x :: l1, y.2.2.2 < hash ∨ (y.2.2.2 = hash ∧ y.2.1 < key) := by
   intro h y hy
   rcases List.mem_cons.1 hy with rfl | hy
   ·exact h
   ·exact e4 y hy
  unfold findS
  split
  ·exact ⟨x :: l1, l2, by rw [e1]; rfl, e2, e3, on (by omega), e5, e6⟩
  ·split
   ·exact ⟨[], x :: r, rfl, rfl, rfl, by simp, (by intro _ y s h; cases h; omega), by intro h; cases h⟩
   ·split
    ·exact ⟨x :: l1, l2, by rw [e1]; rfl, e2, e3, on (by omega), e5, e6⟩
    ·split
     ·exact ⟨[], x :: r, rfl, rfl, rfl, by simp, (by intro _ y s h; cases h; omega), by intro h; cases h⟩
     ·exact ⟨[], x :: r, rfl, rfl, rfl, by simp, (by intro h; cases h), fun _ => ⟨x, r, rfl, by omega, by omega, rfl⟩⟩
/-- Put in where who seeks stands, the list stays in order. -/
theorem incr_ins {l1 l2 : List Nd} {t : Nd} (hi : incr (l1 ++ l2) = true) (h1 : ∀ x ∈ l1, x.2.2.2 < t.2.2.2 ∨ (x.2.2.2 = t.2.2.2 ∧ x.2.1 < t.2.1)) (h2 : ∀ x r, l2 = x :: r → t.2.2.2 < x.2.2.2 ∨ (t.2.2.2 = x.2.2.2 ∧ t.2.1 < x.2.1)) : incr (l1 ++ t :: l2) = true := by
 rw [incr_pw] at hi ⊢
 obtain ⟨p1, p2, p3⟩ := List.pairwise_append.1 hi
 have ht : ∀ y ∈ l2, aheadN t y = true := by
  intro y hy
  cases l2 with
  | nil => cases hy
  | cons z r =>
   have hz := (ahead_iff t z).2 (h2 z r rfl)
   rcases List.mem_cons.1 hy with rfl | hy
   ·exact hz
   ·exact ahead_trans hz ((List.pairwise_cons.1 p2).1 y hy)
 refine List.pairwise_append.2 ⟨p1, List.pairwise_cons.2 ⟨ht, p2⟩, fun a ha b hb => ?_⟩
 rcases List.mem_cons.1 hb with rfl | hb
 ·exact (ahead_iff _ _).2 (h1 a ha)
 ·exact p3 a ha b hb
theorem incr_rem {l1 l2 : List Nd} {t : Nd} (hi : incr (l1 ++ t :: l2) = true) : incr (l1 ++ l2) = true ∧ ∀ x ∈ l1 ++ l2, ¬(x.2.1 = t.2.1 ∧ x.2.2.2 = t.2.2.2) := by
 rw [incr_pw] at hi ⊢
 obtain ⟨p1, p2, p3⟩ := List.pairwise_append.1 hi
 obtain ⟨q1, q2⟩ := List.pairwise_cons.1 p2
 refine ⟨List.pairwise_append.2 ⟨p1, q2, fun a ha b hb => p3 a ha b (List.mem_cons_of_mem _ hb)⟩, fun x hx => ?_⟩
 rcases List.mem_append.1 hx with h | h
 ·have := (ahead_iff _ _).1 (p3 x h t (List.mem_cons_self ..)); omega
 ·have := (ahead_iff _ _).1 (q1 x h); omega
end Go.Proofs.YtipohagcppfgiaaGreat
namespace Go.Proofs.YtipohagcppfgiaaGreat
open Go.RowKit
open Go.Proofs
set_option linter.unusedVariables false
/-- Words that a list does not have may be written. -/
theorem chain_other {M : Mem} {head : Nat} {xs : List Nd} {W : List Nat} {F : Bool} (h : ChainL M head xs) (hw : ∀ w ∈ wordsL head xs, rdL W w = rdL M.W w) : ChainL ⟨W, M.L, F⟩ head xs :=
 ⟨h.nd, h.live, lnk_congr xs _ _ h.fw (hw _ (List.mem_cons_self ..)) (fun w hm => hw w (List.mem_cons_of_mem _ hm)), h.inc⟩
theorem words_ins {head : Nat} {l1 l2 : List Nd} {t : Nd} (w : Nat) : w ∈ wordsL head (l1 ++ t :: l2) ↔ w ∈ w4L t ∨ w ∈ wordsL head (l1 ++ l2) := by
 rw [wordsL_eq, wordsL_eq, wlL_append, wlL_append, wlL_cons]
 simp only [List.mem_cons, List.mem_append]
 constructor
 ·rintro (h | h | h | h)
  ·exact .inr (.inl h)
  ·exact .inr (.inr (.inl h))
  ·exact .inl (by simpa using h)
  ·exact .inr (.inr (.inr h))
 ·rintro (h | h | h | h)
  ·exact .inr (.inr (.inl (by simpa using h)))
  ·exact .inl h
  ·exact .inr (.inl h)
  ·exact .inr (.inr (.inr h))
theorem posL_ne {p j k : Nat} (h : j ≠ k) : posL p j ≠ posL p k := by unfold posL; omega
theorem nodup_ins {head : Nat} {l1 l2 : List Nd} {t : Nd} (hn : (wordsL head (l1 ++ l2)).Nodup) (ht : ∀ k, k < 4 → posL t.1 k ∉ wordsL head (l1 ++ l2)) : (wordsL head (l1 ++ t :: l2)).Nodup := by
 have hp : (wordsL head (l1 ++ t :: l2)).Perm (w4L t ++ wordsL head (l1 ++ l2)) := by
  rw [wordsL_eq, wordsL_eq, wlL_append, wlL_append, wlL_cons]
  have h1 : (wlL l1 ++ (w4L t ++ wlL l2)).Perm (w4L t ++ (wlL l1 ++ wlL l2)) := by
   rw [← List.append_assoc, ← List.append_assoc]
   exact List.Perm.append_right _ List.perm_append_comm
  exact (List.Perm.cons _ h1).trans List.perm_middle.symm
 rw [hp.nodup_iff, List.nodup_append]
 refine ⟨?_, hn, ?_⟩
 ·simp only [List.nodup_cons, List.mem_cons, List.not_mem_nil, not_or, or_false, not_false_eq_true, List.nodup_nil, and_true]
  exact ⟨⟨posL_ne (by decide), posL_ne (by decide), posL_ne (by decide)⟩, ⟨posL_ne (by decide), posL_ne (by decide)⟩, posL_ne (by decide)⟩
 ·intro a ha b hb e
  subst e
  simp only [List.mem_cons, List.not_mem_nil, or_false] at ha
  rcases ha with rfl | rfl | rfl | rfl
  ·exact ht 0 (by decide) hb
  ·exact ht 1 (by decide) hb
  ·exact ht 2 (by decide) hb
  ·exact ht 3 (by decide) hb
theorem nodup_rem {head : Nat} {l1 l2 : List Nd} {t : Nd} (hn : (wordsL head (l1 ++ t :: l2)).Nodup) : (wordsL head (l1 ++ l2)).Nodup := by
 rw [wordsL_eq, wlL_append, wlL_cons] at hn
 rw [wordsL_eq, wlL_append]
 have hs : (posL head 0 :: (wlL l1 ++ wlL l2)).Sublist (posL head 0 :: (wlL l1 ++ (w4L t ++ wlL l2))) := List.Sublist.cons_cons _ (List.Sublist.append_left (List.sublist_append_right _ _) _)
 exact hs.nodup hn
/-- The words that are stored one after another. -/
def putW (M : Mem) (t : Nd) (next : Nat) : Nat → List Nat
 | 0 => M.W
 | 1 => M.W.set (posL t.1 0) t.2.1
 | 2 => (M.W.set (posL t.1 0) t.2.1).set (posL t.1 1) t.2.2.1
 | 3 => ((M.W.set (posL t.1 0) t.2.1).set (posL t.1 1) t.2.2.1).set (posL t.1 3) t.2.2.2
 | _ => (((M.W.set (posL t.1 0) t.2.1).set (posL t.1 1) t.2.2.1).set (posL t.1 3) t.2.2.2).set (posL t.1 2) next
theorem putW_other {M : Mem} {t : Nd} {next : Nat} (hl : ∀ k, k < 4 → posL t.1 k < M.W.length) (k w : Nat) (hw : ∀ j, j < 4 → w ≠ posL t.1 j) : rdL (putW M t next k) w = rdL M.W w := by
 have h0 := hl 0 (by decide)
 have h1 := hl 1 (by decide)
 have h2 := hl 2 (by decide)
 have h3 := hl 3 (by decide)
 have g0 := hw 0 (by decide)
 have g1 := hw 1 (by decide)
 have g2 := hw 2 (by decide)
 have g3 := hw 3 (by decide)
 have e1 : rdL (M.W.set (posL t.1 0) t.2.1) w = rdL M.W w := rdL_other h0 g0
 have e2 : rdL ((M.W.set (posL t.1 0) t.2.1).set (posL t.1 1) t.2.2.1) w = rdL M.W w := by rw [rdL_other (by simpa using h1) g1]; exact e1
 have e3 : rdL (((M.W.set (posL t.1 0) t.2.1).set (posL t.1 1) t.2.2.1).set (posL t.1 3) t.2.2.2) w = rdL M.W w := by rw [rdL_other (by simpa using h3) g3]; exact e2
 match k with
 | 0 => rfl
 | 1 => exact e1
 | 2 => exact e2
 | 3 => exact e3
 | _ + 4 => show rdL ((((M.W.set (posL t.1 0) t.2.1).set (posL t.1 1) t.2.2.1).set (posL t.1 3) t.2.2.2).set (posL t.1 2) next) w = _; rw [rdL_other (by simpa using h2) g2]; exact e3
theorem putW_len (M : Mem) (t : Nd) (next k : Nat) : (putW M t next k).length = M.W.length := by
 match k with
 | 0 => rfl
 | 1 => simp [putW]
 | 2 => simp [putW]
 | 3 => simp [putW]
 | _ + 4 => simp [putW]
/-- The memory behind all stores of who puts. -/
def putM' (M : Mem) (link : Nat) (t : Nd) (next : Nat) : Mem := ⟨(putW M t next 4).set (posL link 0) t.1, M.L, M.F⟩
/-- The memory behind who cuts. -/
def cutM (M : Mem) (link node : Nat) : Mem := ⟨M.W.set (posL link 0) (wAt M node 2), M.L, M.F⟩
end Go.Proofs.YtipohagcppfgiaaGreat
namespace Go.Proofs.YtipohagcppfgiaaGreat
open Go.RowKit
open Go.Proofs
set_option linter.unusedVariables false
/-- So many steps are to come; up to the last one the list is xs, behind it ys, and Q holds. -/
inductive Lst (head : Nat) (xs ys : List Nd) (Q : Mem → Prop) : Nat → Mem → Ede → Prop
 | last {M : Mem} {s : Ede} (ok : okM M = true) (wok : ∀ x ∈ M.W, x < 18446744073709551616) (sok : s.Ok) (ph : s.ph = 5) (was : nodesR M head = some xs) (ph' : (editE M s).2.1.ph = 6) (now : nodesR (editE M s).1 head = some ys) (q : Q (editE M s).1) : Lst head xs ys Q 1 M s
 | more {n : Nat} {M : Mem} {s : Ede} (ok : okM M = true) (wok : ∀ x ∈ M.W, x < 18446744073709551616) (sok : s.Ok) (ph0 : 0 ≤ s.ph) (ph : s.ph < 5) (was : nodesR M head = some xs) (ph' : (editE M s).2.1.ph ≤ 5) (next : Lst head xs ys Q n (editE M s).1 (editE M s).2.1) : Lst head xs ys Q (n + 1) M s
end Go.Proofs.YtipohagcppfgiaaGreat
namespace Go.Proofs.YtipohagcppfgiaaGreat
open Go.RowKit
open Go.Proofs
set_option linter.unusedVariables false
end Go.Proofs.YtipohagcppfgiaaGreat
namespace Go.Proofs.YtipohagcppfgiaaGreat
open Go.RowKit
open Go.Proofs
set_option linter.unusedVariables false
theorem Lst.mono {head : Nat} {xs ys : List Nd} {Q Q' : Mem → Prop} {n : Nat} {M : Mem} {s : Ede} (h : Lst head xs ys Q n M s) (hq : ∀ M, Q M → Q' M) : Lst head xs ys Q' n M s := by
 induction h with
 | last ok wok sok ph was ph' now q => exact .last ok wok sok ph was ph' now (hq _ q)
 | more ok wok sok ph0 ph was ph' next ih => exact .more ok wok sok ph0 ph was ph' ih
theorem Lst.less {head : Nat} {xs ys : List Nd} {Q : Mem → Prop} {n : Nat} {M : Mem} {s : Ede} (h : Lst head xs ys Q n M s) (h5 : s.ph ≠ 5) : ∃ m, n = m + 1 ∧ (editE M s).2.1.ph ≤ 5 ∧ Lst head xs ys Q m (editE M s).1 (editE M s).2.1 := by
 cases h with
 | last ok wok sok ph was ph' now q => exact absurd ph h5
 | more ok wok sok ph0 ph was ph' next => exact ⟨_, rfl, ph', next⟩
end Go.Proofs.YtipohagcppfgiaaGreat
