/- Memories: what lies as one; Check. -/
import Derived.Test.YtipohagcppfgiaaGreatOwn
import Derived.Test.YtipohagcppfgiaaGreatProg
namespace Go.Proofs.YtipohagcppfgiaaGreat
open Go.RowKit
open Go.Proofs
set_option linter.unusedVariables false
/-- A memory: its words, which are live, and whether there was a fault. -/
structure Mem where
 W : List Nat
 L : List Bool
 F : Bool
abbrev poison : Nat := 18369900232523579118
def wordOk (p : Nat × Bool) : Bool := p.2 || (decide (p.1 = 0) || decide (p.1 = poison))
def okM (M : Mem) : Bool := decide (1 ≤ M.W.length) && (decide (M.W.length ≤ 4096) && (decide (M.L.length = M.W.length) && (M.W.zip M.L).all wordOk))
/-- It lies here. -/
structure MemL (V : World) (wa : Option Addr) (wc : Nat) (la : Option Addr) (lc : Nat) (M : Mem) : Prop where
 w : Leads V wa M.W.length wc (wcells M.W)
 l : Leads V la M.L.length lc (bcells M.L)
def memV (wa : Option Addr) (wc : Nat) (la : Option Addr) (lc : Nat) (M : Mem) : Value := .agg #[.slice wa M.W.length wc, .slice la M.L.length lc, .bool M.F]
theorem MemL.grow {V V' : World} {wa la : Option Addr} {wc lc : Nat} {M : Mem} (h : MemL V wa wc la lc M) (hb : Below V.heap.size V V') : MemL V' wa wc la lc M := ⟨h.w.grow hb, h.l.grow hb⟩
theorem okM_spec {M : Mem} (h : okM M = true) : 1 ≤ M.W.length ∧ M.W.length ≤ 4096 ∧ M.L.length = M.W.length ∧ (M.W.zip M.L).all wordOk = true := by
 unfold okM at h
 simp only [Bool.and_eq_true, decide_eq_true_eq] at h
 exact ⟨h.1, h.2.1, h.2.2.1, h.2.2.2⟩
theorem Check1_any (x k n : Nat) (b : Bool) (la : Option Addr) (lc X : Nat) (V : World) (L : List Bool) (hc : V.cell? ⟨X, 1, none⟩ = some (.slice la n lc)) (hl : Leads V la n lc (bcells L)) (hk : k < n) (hb : L[k]? = some b) :
  Calls Tryz.prog 64 #[.int .i64 (k : Nat), .int .u64 (x : Nat), .pointer (some ⟨X, 0, none⟩)] V (fun e V' => e = .returned (.bool (wordOk (x, b))) ∧ V' = V) := by
 obtain ⟨b', off, rfl, -, hcc⟩ := hl.at hk (bcell_at hb)
 have f1 := hcc V (Below.refl _ _)
 have hn := hl.len
 clear hcc hl hb
 unfold wordOk
 dsimp only
 cases b
 case' true =>
  go_enter Tryz.func64, Tryz.ntmps64
  go_wp2
  go_ret
  exact ⟨rfl, rfl⟩
 case' false =>
  by_cases h0 : x = 0
  ·subst h0
   go_enter Tryz.func64, Tryz.ntmps64
   go_wp2
   go_ret
   exact ⟨rfl, rfl⟩
  ·have t0 : (((x : Nat) : Int) == 0) = false := by simp; omega
   by_cases h1 : x = poison
   ·have t1 : (((x : Nat) : Int) == 18369900232523579118) = true := by rw [h1]; rfl
    have HD : Hid ((false || (decide (x = 0) || decide (x = poison))) = true) := hid (by rw [decide_eq_true h1]; simp)
    clear h0 h1
    go_enter Tryz.func64, Tryz.ntmps64
    go_wp2
    go_ret
    exact ⟨retb HD.out.symm, rfl⟩
   ·have t1 : (((x : Nat) : Int) == 18369900232523579118) = false := by simp; unfold poison at h1; omega
    have HD : Hid ((false || (decide (x = 0) || decide (x = poison))) = false) := hid (by rw [decide_eq_false h0, decide_eq_false h1]; rfl)
    clear h0 h1
    go_enter Tryz.func64, Tryz.ntmps64
    go_wp2
    go_ret
    exact ⟨retb HD.out.symm, rfl⟩
set_option maxHeartbeats 1000000 in
theorem EveryW_any (M : Mem) (wa la : Option Addr) (wc lc X n : Nat) (V : World) (hn : M.W.length = n) (hm : M.L.length = n) (h : MemL V wa wc la lc M) (hc : V.cell? ⟨X, 1, none⟩ = some (.slice la n lc)) :
  Calls Tryz.prog 63 #[.slice wa n wc, .func (.func 64) #[] #[.pointer (some ⟨X, 0, none⟩)]] V (fun e V' => e = .returned (.bool ((M.W.zip M.L).all wordOk)) ∧ V' = V) := by
 have hw := h.w
 have hl := h.l
 rw [hn] at hw
 rw [hm] at hl
 have hwn := hw.len.1
 have H := hid hw
 have HN := hid hn
 have HM := hid hm
 have HC := hid (fun (x k : Nat) (b : Bool) (hk : k < n) (hb : M.L[k]? = some b) => Check1_any x k n b la lc X V M.L hc hl hk hb)
 obtain ⟨ZZ, hZZ⟩ := nm (M.W.zip M.L)
 have HZL : Hid (ZZ.length = n) := hid (by rw [← hZZ, List.length_zip, hn, hm]; omega)
 have HZ := hid hZZ
 rw [hZZ]
 clear h hw hl hn hm hc hZZ
 go_enter Tryz.func63, Tryz.ntmps63
 go_wp2
 go_loopg [9] n (fun g i wr => ∃ k : Nat, g + k = n ∧ i = .int .i64 (k : Nat) ∧ Hid ((ZZ.take k).all wordOk = true) ∧ wr = V)
 case atStart => exact ⟨0, rfl, rfl, hid (by simp), rfl⟩
 case round =>
  obtain ⟨k, hk, rfl, hs, hwr⟩ := hrel
  subst hwr
  have HK := hid hk
  clear hk
  by_cases hlt : k < n
  ·obtain ⟨x, hxk⟩ : ∃ x, M.W[k]? = some x := ⟨_, List.getElem?_eq_getElem (by rw [HN.out]; exact hlt)⟩
   obtain ⟨b, hbk⟩ : ∃ x, M.L[k]? = some x := ⟨_, List.getElem?_eq_getElem (by rw [HM.out]; exact hlt)⟩
   obtain ⟨b', off, rfl, -, hc⟩ := H.out.at hlt (wcell_at hxk)
   have f1 := hc _ (Below.refl _ _)
   have hz : ZZ[k]? = some (x, b) := by rw [← HZ.out, List.getElem?_zip_eq_some]; exact ⟨hxk, hbk⟩
   have HTK : Hid ((ZZ.take (k + 1)).all wordOk = wordOk (x, b)) := hid (by rw [take_snoc hz, List.all_append, hs.out]; simp)
   have HMEM : Hid ((x, b) ∈ ZZ) := hid (List.mem_of_getElem? hz)
   have hC := HC.out x k b hlt hbk
   obtain ⟨B, hB⟩ := nm (wordOk (x, b))
   rw [hB] at hC
   have HCX := hid hC
   have HB := hid hB
   clear hc hxk hbk hC hB hz
   cases B with
   | true =>
    go_wp2_with fail
    refine HCX.out.mono ?_
    rintro e w2 ⟨rfl, rfl⟩
    go_wp2
    go_roundg (gk - 1)
    case measure => have := HK.out; omega
    case rel => exact ⟨k + 1, by have := HK.out; omega, by go_num, hid (HTK.out.trans HB.out), rfl⟩
   | false =>
    have HE : Hid (ZZ.all wordOk = false) := hid (by
     rw [Bool.eq_false_iff]
     intro h
     have := List.all_eq_true.1 h _ HMEM.out
     rw [HB.out] at this
     cases this)
    go_wp2_with fail
    refine HCX.out.mono ?_
    rintro e w2 ⟨rfl, rfl⟩
    go_wp2
    go_ret
    exact ⟨retb HE.out.symm, rfl⟩
  ·have e := HK.out
   obtain rfl : k = n := by omega
   have HE : Hid (ZZ.all wordOk = true) := hid (by
    have := hs.out
    rwa [List.take_of_length_le (by rw [HZL.out]; exact Nat.le_refl _)] at this)
   clear hs e HK
   go_wp2
   go_ret
   exact ⟨retb HE.out.symm, rfl⟩
set_option maxRecDepth 100000 in
set_option maxHeartbeats 2000000 in
theorem Check_any (M : Mem) (wa la : Option Addr) (wc lc : Nat) (V : World) (h : MemL V wa wc la lc M) :
  Calls Tryz.prog 49 #[memV wa wc la lc M] V (Ret (.int .i64 (if okM M then 0 else 120)) V) := by
 obtain ⟨V1, hV1, hb1, hs1, hl1⟩ := laid V #[.slice wa M.W.length wc, .slice la M.L.length lc, .bool M.F] 25
 obtain ⟨X, hX⟩ := nm (V.heap.size)
 rw [hX] at hl1
 have a0 := clD (i := 0) hl1 rfl
 have a1 := clD (i := 1) hl1 rfl
 have HM := hid (h.grow hb1)
 have HB1 := hid hb1
 have hwl := h.w.len
 have hll := h.l.len
 unfold memV
 obtain ⟨n, hn⟩ := nm (M.W.length)
 obtain ⟨m, hm⟩ := nm (M.L.length)
 obtain ⟨A, hA⟩ := nm ((M.W.zip M.L).all wordOk)
 have HEV := hid (fun (e : m = n) => EveryW_any M wa la wc lc X n V1 hn (hm.trans e) HM.out (by rw [← e, ← hm]; exact a1))
 rw [hA] at HEV
 have HOK : Hid (okM M = (decide (1 ≤ n) && (decide (n ≤ 4096) && (decide (m = n) && A)))) := hid (by unfold okM; rw [hn, hm, hA])
 rw [hn] at hV1 a0 hwl
 rw [hm] at hV1 a1 hll
 rw [hn, hm]
 rw [HOK.out]
 obtain ⟨E, hE⟩ : ∃ E : Int, (if (decide (1 ≤ n) && (decide (n ≤ 4096) && (decide (m = n) && A))) = true then (0 : Int) else 120) = E := ⟨_, rfl⟩
 rw [hE]
 have HE := hid hE
 clear h hl1 hs1 hn hm hA hE
 go_enter Tryz.func49, Tryz.ntmps49
 by_cases c1 : 1 ≤ n
 ·have t1 : decide ((1 : Int) ≤ ((n : Nat) : Int)) = true := decide_eq_true (by omega)
  by_cases c2 : n ≤ 4096
  ·have t2 : decide (((n : Nat) : Int) ≤ 4096) = true := decide_eq_true (by omega)
   by_cases c3 : m = n
   ·subst c3
    have HEV2 := hid (HEV.out rfl)
    cases A
    case' true =>
     have HEE : Hid (E = 0) := hid (by rw [← HE.out, decide_eq_true c1, decide_eq_true c2, decide_eq_true rfl]; rfl)
    case' false =>
     have HEE : Hid (E = 120) := hid (by rw [← HE.out, decide_eq_true c1, decide_eq_true c2, decide_eq_true rfl]; rfl)
    all_goals
     go_wp2_with fail
     refine HEV2.out.mono ?_
     rintro e w2 ⟨rfl, rfl⟩
     go_wp2
     go_ret
     exact ⟨reti HEE.out.symm, HB1.out⟩
   ·have t3 : (((m : Nat) : Int) == ((n : Nat) : Int)) = false := by simp; omega
    have HEE : Hid (E = 120) := hid (by rw [← HE.out, decide_eq_true c1, decide_eq_true c2, decide_eq_false c3]; rfl)
    go_wp2
    go_ret
    exact ⟨reti HEE.out.symm, HB1.out⟩
  ·have t2 : decide (((n : Nat) : Int) ≤ 4096) = false := decide_eq_false (by omega)
   have HEE : Hid (E = 120) := hid (by rw [← HE.out, decide_eq_true c1, decide_eq_false c2]; rfl)
   go_wp2
   go_ret
   exact ⟨reti HEE.out.symm, HB1.out⟩
 ·have t1 : decide ((1 : Int) ≤ ((n : Nat) : Int)) = false := decide_eq_false (by omega)
  have HEE : Hid (E = 120) := hid (by rw [← HE.out, decide_eq_false c1]; rfl)
  go_wp2
  go_ret
  exact ⟨reti HEE.out.symm, HB1.out⟩
end Go.Proofs.YtipohagcppfgiaaGreat
