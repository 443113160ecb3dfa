/- Layer 17, several texts in one. -/
import Derived.Test.YtipohagcppfgiaaGreatWkC
import Derived.Test.YtipohagcppfgiaaGreatWkB
import Derived.Test.YtipohagcppfgiaaGreatLsZ
import Derived.Test.YtipohagcppfgiaaGreatWkD
namespace Go.Proofs.YtipohagcppfgiaaGreat
open Go.RowKit
open Go.Proofs
set_option linter.unusedVariables false
/-- The nodes that have been in the list. -/
structure PInv (M : Mem) (head : Nat) (pub : List Nd) : Prop where
 ok : okM M = true
 F : M.F = false
 nd : (wordsL head pub).Nodup
 live : ∀ w ∈ wordsL head pub, liveN M w = true
 val : ∀ p ∈ pub, p = ndAt M p.1 ∧ p.1 ≠ 0
 nxt : ∀ p ∈ pub, wAt M p.1 2 = 0 ∨ ∃ q ∈ pub, q.1 = wAt M p.1 2
 hd : wAt M head 0 = 0 ∨ ∃ q ∈ pub, q.1 = wAt M head 0
/-- A node that the list has had all the time: all ways lead to it. -/
structure Thru (M : Mem) (head : Nat) (pub : List Nd) (X : Nd) : Prop where
 mem : X ∈ pub
 nxt : ∀ p ∈ pub, aheadN p X = true → ∃ q ∈ pub, q.1 = wAt M p.1 2 ∧ aheadN X q = false
 hd : ∃ q ∈ pub, q.1 = wAt M head 0 ∧ aheadN X q = false
 one : ∀ q ∈ pub, q.2.2.2 = X.2.2.2 → q.2.1 = X.2.1 → q = X
/-- Who seeks among them. -/
structure RdB (head : Nat) (pub : List Nd) (s : Sk) : Prop where
 ok : s.Ok
 p0 : 0 ≤ s.ph
 p4 : s.ph ≤ 4
 a0 : s.ph = 0 → s.link = head ∨ ∃ p ∈ pub, s.link = p.1 + 2
 a1 : 1 ≤ s.ph → s.ph ≤ 3 → ∃ p ∈ pub, s.node = p.1 ∧ (2 ≤ s.ph → p.2.2.2 = s.hash) ∧ (3 ≤ s.ph → p.2.1 = s.key)
 a4 : s.found = true → s.ph = 4 ∧ ∃ p ∈ pub, p.2.2.2 = s.hash ∧ p.2.1 = s.key ∧ s.val = p.2.2.1
/-- Who seeks that node. -/
structure RdX (head : Nat) (pub : List Nd) (X : Nd) (s : Sk) : Prop where
 b0 : s.ph = 0 → s.link = head ∨ ∃ p ∈ pub, s.link = p.1 + 2 ∧ aheadN p X = true
 b1 : 1 ≤ s.ph → s.ph ≤ 3 → ∃ p ∈ pub, s.node = p.1 ∧ aheadN X p = false
 b4 : s.ph = 4 → s.found = true
theorem RdB.mono {head : Nat} {pub pub' : List Nd} {s : Sk} (h : RdB head pub s) (hs : ∀ p ∈ pub, p ∈ pub') : RdB head pub' s :=
 ⟨h.ok, h.p0, h.p4, fun e => (h.a0 e).imp id fun ⟨p, hp, e⟩ => ⟨p, hs p hp, e⟩, fun e e' => let ⟨p, hp, r⟩ := h.a1 e e'; ⟨p, hs p hp, r⟩, fun e => let ⟨h4, p, hp, r⟩ := h.a4 e; ⟨h4, p, hs p hp, r⟩⟩
theorem RdX.mono {head : Nat} {pub pub' : List Nd} {X : Nd} {s : Sk} (h : RdX head pub X s) (hs : ∀ p ∈ pub, p ∈ pub') : RdX head pub' X s :=
 ⟨fun e => (h.b0 e).imp id fun ⟨p, hp, e⟩ => ⟨p, hs p hp, e⟩, fun e e' => let ⟨p, hp, r⟩ := h.b1 e e'; ⟨p, hs p hp, r⟩, h.b4⟩
theorem PInv.word {M : Mem} {head : Nat} {pub : List Nd} (h : PInv M head pub) {p : Nd} (hp : p ∈ pub) (k : Nat) (hk : k < 4) : liveN M (posL p.1 k) = true :=
 h.live _ (by rw [wordsL_eq]; exact List.mem_cons_of_mem _ (mem_wlL hp k hk))
theorem PInv.head_ {M : Mem} {head : Nat} {pub : List Nd} (h : PInv M head pub) : liveN M (posL head 0) = true := h.live _ (by rw [wordsL_eq]; exact List.mem_cons_self ..)
theorem PInv.link {M : Mem} {head : Nat} {pub : List Nd} (h : PInv M head pub) {p : Nd} (hp : p ∈ pub) : posL (p.1 + 2) 0 = posL p.1 2 ∧ p.1 < 4096 := by
 obtain ⟨h1, h2, h3⟩ := live_small (p := p.1) (k := 2) h.ok (h.word hp 2 (by decide))
 have h4 := live_small (p := p.1) (k := 3) h.ok (h.word hp 3 (by decide))
 have h5 := (okM_spec h.ok).2.1
 refine ⟨?_, h1⟩
 unfold posL at *
 omega
theorem PInv.link_live {M : Mem} {head : Nat} {pub : List Nd} (h : PInv M head pub) {l : Nat} (hl : l = head ∨ ∃ p ∈ pub, l = p.1 + 2) : liveN M (posL l 0) = true := by
 rcases hl with rfl | ⟨p, hp, rfl⟩
 ·exact h.head_
 ·rw [(h.link hp).1]; exact h.word hp 2 (by decide)
theorem PInv.link_to {M : Mem} {head : Nat} {pub : List Nd} (h : PInv M head pub) {l : Nat} (hl : l = head ∨ ∃ p ∈ pub, l = p.1 + 2) : M.W.getD (posL l 0) 0 = 0 ∨ ∃ q ∈ pub, q.1 = M.W.getD (posL l 0) 0 := by
 rcases hl with rfl | ⟨p, hp, rfl⟩
 ·exact h.hd
 ·rw [(h.link hp).1]; exact h.nxt p hp
theorem PInv.unique {M : Mem} {head : Nat} {pub : List Nd} (h : PInv M head pub) {p q : Nd} (hp : p ∈ pub) (hq : q ∈ pub) (e : p.1 = q.1) : p = q := by
 rw [(h.val p hp).1, (h.val q hq).1, e]
theorem thenS0 (s : Sk) (n : Nat) : thenS s n 0 = { s with node := n, ph := if n = 0 then 4 else 1 } := rfl
theorem thenS1 (s : Sk) (n : Nat) : thenS s n 1 = cmpS s n s.hash 2 := rfl
theorem thenS2 (s : Sk) (n : Nat) : thenS s n 2 = cmpS s n s.key 3 := rfl
theorem thenS3 (s : Sk) (n : Nat) : thenS s n 3 = { s with val := n, found := true, ph := 4 } := rfl
/-- A step of who seeks among them. -/
theorem rd_step {M : Mem} {head : Nat} {pub : List Nd} {s : Sk} (h : PInv M head pub) (hW : ∀ x ∈ M.W, x < 18446744073709551616) (hr : RdB head pub s) (h4 : s.ph ≠ 4) :
  ∃ s', seekE M s = (M, s', true) ∧ RdB head pub s' ∧ s'.hash = s.hash ∧ s'.key = s.key ∧ s = { s with found := false } ∧
   ∀ X, Thru M head pub X → X.2.2.2 = s.hash → X.2.1 = s.key → RdX head pub X s → RdX head pub X s' := by
 have hp0 := hr.p0
 have hp4 := hr.p4
 have hfd : s.found = false := by
  cases e : s.found with
  | false => rfl
  | true => exact absurd (hr.a4 e).1 h4
 have hse : s = { s with found := false } := by rw [← hfd]
 have hWt : ∀ x ∈ pub, x.1 < 4096 := fun x hx => (h.link hx).2
 have hcase : s.ph = 0 ∨ s.ph = 1 ∨ s.ph = 2 ∨ s.ph = 3 := by omega
 rcases hcase with e | e | e | e
 ·have hl := h.link_live (hr.a0 e)
  have hst := seekE_eq (M := M) (s := s) (q := posL s.link 0) (x := M.W.getD (posL s.link 0) 0) 0 (by rw [e]; rfl) (by decide) rfl hl rfl
  refine ⟨_, hst, ?_, rfl, rfl, hse, ?_⟩
  ·obtain ⟨n, hn⟩ := nm (M.W.getD (posL s.link 0) 0)
   have ht := h.link_to (hr.a0 e)
   rw [hn] at ht ⊢
   have hn5 : n < 18446744073709551616 := by
    rcases ht with h0 | ⟨q, hq, h0⟩
    ·omega
    ·have := hWt q hq; omega
   rw [thenS0]
   by_cases h0 : n = 0
   ·rw [if_pos h0]
    exact ⟨⟨by dsimp only; decide, hr.ok.hash, hr.ok.key, hr.ok.link, hn5, hr.ok.val⟩, by dsimp only; decide, by dsimp only; decide, fun e' => by dsimp only at e'; omega, fun _ e' => by dsimp only at e'; omega, fun e' => by dsimp only at e'; rw [hfd] at e'; cases e'⟩
   ·rw [if_neg h0]
    obtain ⟨q, hq, hqn⟩ := ht.resolve_left h0
    exact ⟨⟨by dsimp only; decide, hr.ok.hash, hr.ok.key, hr.ok.link, hn5, hr.ok.val⟩, by dsimp only; decide, by dsimp only; decide, fun e' => by dsimp only at e'; omega, fun _ _ => ⟨q, hq, hqn.symm, fun e' => by dsimp only at e'; omega, fun e' => by dsimp only at e'; omega⟩, fun e' => by dsimp only at e'; rw [hfd] at e'; cases e'⟩
  ·intro X hX hXh hXk hx
   have ht : ∃ q ∈ pub, q.1 = M.W.getD (posL s.link 0) 0 ∧ aheadN X q = false := by
    rcases hx.b0 e with hl | ⟨p, hp, hl, ha⟩
    ·rw [hl]; exact hX.hd
    ·rw [hl, (h.link hp).1]; exact hX.nxt p hp ha
   obtain ⟨q, hq, hqn, hqa⟩ := ht
   have hq0 : q.1 ≠ 0 := (h.val q hq).2
   rw [thenS0]
   rw [if_neg (by rw [← hqn]; exact hq0)]
   exact ⟨fun e' => by dsimp only at e'; omega, fun _ _ => ⟨q, hq, hqn.symm, hqa⟩, fun e' => by dsimp only at e'; omega⟩
 ·obtain ⟨p, hp, hpn, -, -⟩ := hr.a1 (by omega) (by omega)
  have hl := h.word hp 3 (by decide)
  rw [← hpn] at hl
  have hv := (h.val p hp).1
  have hhash : p.2.2.2 = M.W.getD (posL s.node 3) 0 := by rw [hpn]; exact congrArg (·.2.2.2) hv
  have hst := seekE_eq (M := M) (s := s) (q := posL s.node 3) (x := p.2.2.2) 1 (by rw [e]; rfl) (by decide) rfl hl hhash.symm
  refine ⟨_, hst, ?_, ?_, ?_, hse, ?_⟩
  ·rw [thenS1]; unfold cmpS
   have hm : (s.node + 2) % 18446744073709551616 = p.1 + 2 := by rw [hpn]; have := hWt p hp; omega
   by_cases c1 : p.2.2.2 < s.hash
   ·rw [if_pos c1]
    exact ⟨⟨by dsimp only; decide, hr.ok.hash, hr.ok.key, by dsimp only; omega, hr.ok.node, hr.ok.val⟩, by dsimp only; decide, by dsimp only; decide, fun _ => .inr ⟨p, hp, hm⟩, fun e' => by dsimp only at e'; omega, fun e' => by dsimp only at e'; rw [hfd] at e'; cases e'⟩
   ·rw [if_neg c1]
    by_cases c2 : s.hash < p.2.2.2
    ·rw [if_pos c2]
     exact ⟨⟨by dsimp only; decide, hr.ok.hash, hr.ok.key, hr.ok.link, hr.ok.node, hr.ok.val⟩, by dsimp only; decide, by dsimp only; decide, fun e' => by dsimp only at e'; omega, fun _ e' => by dsimp only at e'; omega, fun e' => by dsimp only at e'; rw [hfd] at e'; cases e'⟩
    ·rw [if_neg c2]
     exact ⟨⟨by dsimp only; decide, hr.ok.hash, hr.ok.key, hr.ok.link, hr.ok.node, hr.ok.val⟩, by dsimp only; decide, by dsimp only; decide, fun e' => by dsimp only at e'; omega, fun _ _ => ⟨p, hp, hpn, fun _ => by dsimp only; omega, fun e' => by dsimp only at e'; omega⟩, fun e' => by dsimp only at e'; rw [hfd] at e'; cases e'⟩
  ·rw [thenS1]; unfold cmpS; split; rfl; split <;> rfl
  ·rw [thenS1]; unfold cmpS; split; rfl; split <;> rfl
  ·intro X hX hXh hXk hx
   obtain ⟨p', hp', hpn', hpa⟩ := hx.b1 (by omega) (by omega)
   obtain rfl : p' = p := h.unique hp' hp (by rw [← hpn', hpn])
   have hna : ¬ aheadN X p' = true := by rw [hpa]; decide
   rw [ahead_iff] at hna
   have hm : (s.node + 2) % 18446744073709551616 = p'.1 + 2 := by rw [hpn]; have := hWt p' hp; omega
   rw [thenS1]; unfold cmpS
   by_cases c1 : p'.2.2.2 < s.hash
   ·rw [if_pos c1]
    exact ⟨fun _ => .inr ⟨p', hp, hm, by rw [ahead_iff, hXh]; exact .inl c1⟩, fun e' => by dsimp only at e'; omega, fun e' => by dsimp only at e'; omega⟩
   ·rw [if_neg c1, if_neg (by rw [← hXh]; omega)]
    exact ⟨fun e' => by dsimp only at e'; omega, fun _ _ => ⟨p', hp, hpn, hpa⟩, fun e' => by dsimp only at e'; omega⟩
 ·obtain ⟨p, hp, hpn, hph, -⟩ := hr.a1 (by omega) (by omega)
  have hph2 := hph (by omega)
  have hl := h.word hp 0 (by decide)
  rw [← hpn] at hl
  have hv := (h.val p hp).1
  have hkey : p.2.1 = M.W.getD (posL s.node 0) 0 := by rw [hpn]; exact congrArg (·.2.1) hv
  have hst := seekE_eq (M := M) (s := s) (q := posL s.node 0) (x := p.2.1) 2 (by rw [e]; rfl) (by decide) rfl hl hkey.symm
  refine ⟨_, hst, ?_, ?_, ?_, hse, ?_⟩
  ·rw [thenS2]; unfold cmpS
   have hm : (s.node + 2) % 18446744073709551616 = p.1 + 2 := by rw [hpn]; have := hWt p hp; omega
   by_cases c1 : p.2.1 < s.key
   ·rw [if_pos c1]
    exact ⟨⟨by dsimp only; decide, hr.ok.hash, hr.ok.key, by dsimp only; omega, hr.ok.node, hr.ok.val⟩, by dsimp only; decide, by dsimp only; decide, fun _ => .inr ⟨p, hp, hm⟩, fun e' => by dsimp only at e'; omega, fun e' => by dsimp only at e'; rw [hfd] at e'; cases e'⟩
   ·rw [if_neg c1]
    by_cases c2 : s.key < p.2.1
    ·rw [if_pos c2]
     exact ⟨⟨by dsimp only; decide, hr.ok.hash, hr.ok.key, hr.ok.link, hr.ok.node, hr.ok.val⟩, by dsimp only; decide, by dsimp only; decide, fun e' => by dsimp only at e'; omega, fun _ e' => by dsimp only at e'; omega, fun e' => by dsimp only at e'; rw [hfd] at e'; cases e'⟩
    ·rw [if_neg c2]
     exact ⟨⟨by dsimp only; decide, hr.ok.hash, hr.ok.key, hr.ok.link, hr.ok.node, hr.ok.val⟩, by dsimp only; decide, by dsimp only; decide, fun e' => by dsimp only at e'; omega, fun _ _ => ⟨p, hp, hpn, fun _ => hph2, fun _ => by dsimp only; omega⟩, fun e' => by dsimp only at e'; rw [hfd] at e'; cases e'⟩
  ·rw [thenS2]; unfold cmpS; split; rfl; split <;> rfl
  ·rw [thenS2]; unfold cmpS; split; rfl; split <;> rfl
  ·intro X hX hXh hXk hx
   obtain ⟨p', hp', hpn', hpa⟩ := hx.b1 (by omega) (by omega)
   obtain rfl : p' = p := h.unique hp' hp (by rw [← hpn', hpn])
   have hna : ¬ aheadN X p' = true := by rw [hpa]; decide
   rw [ahead_iff] at hna
   have hm : (s.node + 2) % 18446744073709551616 = p'.1 + 2 := by rw [hpn]; have := hWt p' hp; omega
   rw [thenS2]; unfold cmpS
   by_cases c1 : p'.2.1 < s.key
   ·rw [if_pos c1]
    exact ⟨fun _ => .inr ⟨p', hp, hm, by rw [ahead_iff, hXh, hXk]; exact .inr ⟨hph2, c1⟩⟩, fun e' => by dsimp only at e'; omega, fun e' => by dsimp only at e'; omega⟩
   ·rw [if_neg c1, if_neg (by rw [← hXk]; omega)]
    exact ⟨fun e' => by dsimp only at e'; omega, fun _ _ => ⟨p', hp, hpn, hpa⟩, fun e' => by dsimp only at e'; omega⟩
 ·obtain ⟨p, hp, hpn, hph, hpk⟩ := hr.a1 (by omega) (by omega)
  have hl := h.word hp 1 (by decide)
  rw [← hpn] at hl
  have hv := (h.val p hp).1
  have hval : p.2.2.1 = M.W.getD (posL s.node 1) 0 := by rw [hpn]; exact congrArg (·.2.2.1) hv
  have hst := seekE_eq (M := M) (s := s) (q := posL s.node 1) (x := p.2.2.1) 3 (by rw [e]; rfl) (by decide) rfl hl hval.symm
  have hvo : p.2.2.1 < 18446744073709551616 := by rw [hval]; exact wAt_lt hW s.node 1
  refine ⟨_, hst, ?_, rfl, rfl, hse, ?_⟩
  ·rw [thenS3]
   exact ⟨⟨by dsimp only; decide, hr.ok.hash, hr.ok.key, hr.ok.link, hr.ok.node, hvo⟩, by dsimp only; decide, by dsimp only; decide, fun e' => by dsimp only at e'; omega, fun _ e' => by dsimp only at e'; omega, fun _ => ⟨rfl, p, hp, hph (by omega), hpk (by omega), rfl⟩⟩
  ·intro X hX hXh hXk hx
   rw [thenS3]
   exact ⟨fun e' => by dsimp only at e'; omega, fun _ e' => by dsimp only at e'; omega, fun _ => rfl⟩
end Go.Proofs.YtipohagcppfgiaaGreat
namespace Go.Proofs.YtipohagcppfgiaaGreat
open Go.RowKit
open Go.Proofs
set_option linter.unusedVariables false
theorem PInv.congr {M M' : Mem} {head : Nat} {pub : List Nd} (h : PInv M head pub) (ok : okM M' = true) (hL : M'.L = M.L) (hF : M'.F = M.F) (hw : ∀ w ∈ wordsL head pub, rdL M'.W w = rdL M.W w) : PInv M' head pub := by
 have hp : ∀ p ∈ pub, ∀ k, k < 4 → wAt M' p.1 k = wAt M p.1 k := fun p hp k hk => hw _ (by rw [wordsL_eq]; exact List.mem_cons_of_mem _ (mem_wlL hp k hk))
 have hh : wAt M' head 0 = wAt M head 0 := hw _ (by rw [wordsL_eq]; exact List.mem_cons_self ..)
 refine ⟨ok, by rw [hF]; exact h.F, h.nd, fun w hw' => by unfold liveN; rw [hL]; exact h.live w hw', fun p hp' => ⟨?_, (h.val p hp').2⟩, fun p hp' => by rw [hp p hp' 2 (by decide)]; exact h.nxt p hp', by rw [hh]; exact h.hd⟩
 have := (h.val p hp').1
 unfold ndAt at this ⊢
 rw [hp p hp' 0 (by decide), hp p hp' 1 (by decide), hp p hp' 3 (by decide)]
 exact this
theorem Thru.congr {M M' : Mem} {head : Nat} {pub : List Nd} {X : Nd} (h : Thru M head pub X) (hw : ∀ w ∈ wordsL head pub, rdL M'.W w = rdL M.W w) : Thru M' head pub X := by
 refine ⟨h.mem, fun p hp ha => ?_, ?_, h.one⟩
 ·rw [show wAt M' p.1 2 = wAt M p.1 2 from hw _ (by rw [wordsL_eq]; exact List.mem_cons_of_mem _ (mem_wlL hp 2 (by decide)))]
  exact h.nxt p hp ha
 ·rw [show wAt M' head 0 = wAt M head 0 from hw _ (by rw [wordsL_eq]; exact List.mem_cons_self ..)]
  exact h.hd
theorem nodup_other {head : Nat} {pub : List Nd} (hn : (wordsL head pub).Nodup) {p q : Nd} (hp : p ∈ pub) (hq : q ∈ pub) {j k : Nat} (hj : j < 4) (hk : k < 4) (e : posL p.1 j = posL q.1 k) : p.1 = q.1 ∧ j = k := by
 induction pub with
 | nil => cases hp
 | cons y ys ih =>
  have hw : wordsL head (y :: ys) = posL head 0 :: (w4L y ++ wlL ys) := by rw [wordsL_eq, wlL_cons]
  rw [hw, List.nodup_cons, List.nodup_append] at hn
  obtain ⟨h1, h2, h3, h4⟩ := hn
  have hys : (wordsL head ys).Nodup := by
   rw [wordsL_eq, List.nodup_cons]
   exact ⟨fun h => h1 (List.mem_append_right _ h), h3⟩
  rcases List.mem_cons.1 hp with rfl | hp' <;> rcases List.mem_cons.1 hq with rfl | hq'
  ·refine ⟨rfl, ?_⟩
   unfold posL at e
   omega
  ·exact absurd e (h4 _ (mem_w4L p j hj) _ (mem_wlL hq' k hk))
  ·exact absurd e.symm (h4 _ (mem_w4L q k hk) _ (mem_wlL hp' j hj))
  ·exact ih hys hp' hq'
theorem nodup_head {head : Nat} {pub : List Nd} (hn : (wordsL head pub).Nodup) {p : Nd} (hp : p ∈ pub) {j : Nat} (hj : j < 4) : posL head 0 ≠ posL p.1 j := by
 rw [wordsL_eq, List.nodup_cons] at hn
 intro e
 exact hn.1 (e ▸ mem_wlL hp j hj)
/-- The link to a node is stored. -/
theorem link_store {M : Mem} {head link v : Nat} {pub : List Nd} (h : PInv M head pub) (hl : link = head ∨ ∃ p ∈ pub, link = p.1 + 2) (hv : v = 0 ∨ ∃ q ∈ pub, q.1 = v) (ok : okM ⟨M.W.set (posL link 0) v, M.L, M.F⟩ = true) :
  PInv ⟨M.W.set (posL link 0) v, M.L, M.F⟩ head pub := by
 have hlt : posL link 0 < M.W.length := by have := live_lt (h.link_live hl); rw [(okM_spec h.ok).2.2.1] at this; exact this
 have rd : ∀ i, rdL (M.W.set (posL link 0) v) i = if i = posL link 0 then v else rdL M.W i := fun i => rdL_set hlt
 have oth : ∀ p ∈ pub, ∀ k, k < 4 → k ≠ 2 → posL p.1 k ≠ posL link 0 := by
  intro p hp k hk hk2 e
  rcases hl with rfl | ⟨q, hq, rfl⟩
  ·exact nodup_head h.nd hp hk e.symm
  ·rw [(h.link hq).1] at e
   exact hk2 (nodup_other h.nd hp hq hk (by decide) e).2
 have hp4 : ∀ p ∈ pub, ∀ k, k < 4 → k ≠ 2 → wAt ⟨M.W.set (posL link 0) v, M.L, M.F⟩ p.1 k = wAt M p.1 k := fun p hp k hk hk2 => (rd _).trans (if_neg (oth p hp k hk hk2))
 refine ⟨ok, h.F, h.nd, h.live, fun p hp => ⟨?_, (h.val p hp).2⟩, fun p hp => ?_, ?_⟩
 ·have := (h.val p hp).1
  unfold ndAt at this ⊢
  rw [hp4 p hp 0 (by decide) (by decide), hp4 p hp 1 (by decide) (by decide), hp4 p hp 3 (by decide) (by decide)]
  exact this
 ·rw [show wAt ⟨M.W.set (posL link 0) v, M.L, M.F⟩ p.1 2 = if posL p.1 2 = posL link 0 then v else rdL M.W (posL p.1 2) from rd _]
  split
  ·exact hv
  ·exact h.nxt p hp
 ·rw [show wAt ⟨M.W.set (posL link 0) v, M.L, M.F⟩ head 0 = if posL head 0 = posL link 0 then v else rdL M.W (posL head 0) from rd _]
  split
  ·exact hv
  ·exact h.hd
theorem link_thru {M : Mem} {head link v : Nat} {pub : List Nd} {X : Nd} (h : PInv M head pub) (hl : link = head ∨ ∃ p ∈ pub, link = p.1 + 2) (hx : Thru M head pub X)
  (hv : (link = head ∨ ∃ p ∈ pub, link = p.1 + 2 ∧ aheadN p X = true) → ∃ q ∈ pub, q.1 = v ∧ aheadN X q = false) : Thru ⟨M.W.set (posL link 0) v, M.L, M.F⟩ head pub X := by
 have hlt : posL link 0 < M.W.length := by have := live_lt (h.link_live hl); rw [(okM_spec h.ok).2.2.1] at this; exact this
 have rd : ∀ i, rdL (M.W.set (posL link 0) v) i = if i = posL link 0 then v else rdL M.W i := fun i => rdL_set hlt
 refine ⟨hx.mem, fun p hp ha => ?_, ?_, hx.one⟩
 ·rw [show wAt ⟨M.W.set (posL link 0) v, M.L, M.F⟩ p.1 2 = if posL p.1 2 = posL link 0 then v else rdL M.W (posL p.1 2) from rd _]
  split
  ·rename_i e
   refine hv ?_
   rcases hl with rfl | ⟨q, hq, rfl⟩
   ·exact absurd e.symm (nodup_head h.nd hp (by decide))
   ·rw [(h.link hq).1] at e
    have := (nodup_other h.nd hp hq (by decide) (by decide) e).1
    exact .inr ⟨p, hp, by rw [this], ha⟩
  ·exact hx.nxt p hp ha
 ·rw [show wAt ⟨M.W.set (posL link 0) v, M.L, M.F⟩ head 0 = if posL head 0 = posL link 0 then v else rdL M.W (posL head 0) from rd _]
  split
  ·rename_i e
   refine hv ?_
   rcases hl with rfl | ⟨q, hq, rfl⟩
   ·exact .inl rfl
   ·rw [(h.link hq).1] at e
    exact absurd e (nodup_head h.nd hq (by decide))
  ·exact hx.hd
/-- A node comes to those that have been in the list. -/
theorem PInv.ext {M : Mem} {head : Nat} {pub : List Nd} {t : Nd} (h : PInv M head pub) (hn : (wordsL head (pub ++ [t])).Nodup) (hl : ∀ k, k < 4 → liveN M (posL t.1 k) = true) (ht : t = ndAt M t.1) (h0 : t.1 ≠ 0) (hx : wAt M t.1 2 = 0 ∨ ∃ q ∈ pub, q.1 = wAt M t.1 2) : PInv M head (pub ++ [t]) := by
 refine ⟨h.ok, h.F, hn, fun w hw => ?_, fun p hp => ?_, fun p hp => ?_, h.hd.imp id fun ⟨q, hq, e⟩ => ⟨q, List.mem_append_left _ hq, e⟩⟩
 ·rw [words_append] at hw
  rcases List.mem_append.1 hw with hw | hw
  ·exact h.live w (by rw [wordsL_eq]; exact hw)
  ·have hw' : w ∈ w4L t := by simpa [wlL] using hw
   simp only [List.mem_cons, List.not_mem_nil, or_false] at hw'
   rcases hw' with rfl | rfl | rfl | rfl <;> exact hl _ (by decide)
 ·rcases List.mem_append.1 hp with hp | hp
  ·exact h.val p hp
  ·rw [List.mem_singleton] at hp; subst hp; exact ⟨ht, h0⟩
 ·rcases List.mem_append.1 hp with hp | hp
  ·exact (h.nxt p hp).imp id fun ⟨q, hq, e⟩ => ⟨q, List.mem_append_left _ hq, e⟩
  ·rw [List.mem_singleton] at hp; subst hp
   exact hx.imp id fun ⟨q, hq, e⟩ => ⟨q, List.mem_append_left _ hq, e⟩
theorem Thru.ext {M : Mem} {head : Nat} {pub : List Nd} {t X : Nd} (h : Thru M head pub X) (hx : aheadN t X = true → ∃ q ∈ pub, q.1 = wAt M t.1 2 ∧ aheadN X q = false) (hk : ¬ (t.2.2.2 = X.2.2.2 ∧ t.2.1 = X.2.1)) : Thru M head (pub ++ [t]) X := by
 refine ⟨List.mem_append_left _ h.mem, fun p hp ha => ?_, ?_, fun q hq e1 e2 => ?_⟩
 ·rcases List.mem_append.1 hp with hp | hp
  ·obtain ⟨q, hq, r⟩ := h.nxt p hp ha
   exact ⟨q, List.mem_append_left _ hq, r⟩
  ·rw [List.mem_singleton] at hp; subst hp
   obtain ⟨q, hq, r⟩ := hx ha
   exact ⟨q, List.mem_append_left _ hq, r⟩
 ·obtain ⟨q, hq, r⟩ := h.hd
  exact ⟨q, List.mem_append_left _ hq, r⟩
 ·rcases List.mem_append.1 hq with hq | hq
  ·exact h.one q hq e1 e2
  ·rw [List.mem_singleton] at hq; subst hq
   exact absurd ⟨e1, e2⟩ hk
/-- Where a link leads from, and the front of the list up to it. -/
theorem endA_pub {head : Nat} {pub : List Nd} : ∀ (l : List Nd) (a : Nat), (∀ x ∈ l, x ∈ pub) → (a = head ∨ ∃ p ∈ pub, a = p.1 + 2) → endA a l = head ∨ ∃ p ∈ pub, endA a l = p.1 + 2
 | [], a, _, ha => ha
 | t :: ts, a, hl, _ => endA_pub ts (t.1 + 2) (fun x hx => hl x (List.mem_cons_of_mem _ hx)) (.inr ⟨t, hl t (List.mem_cons_self ..), rfl⟩)
-- BEGIN OF THE LAWS
theorem put_law2 {M : Mem} {head : Nat} {xs : List Nd} {t : Nd} (hok : okM M = true) (h : ChainL M head xs) (hf : fitsP M head xs t = true) (hn : (findS t.2.2.2 t.2.1 head xs).1.found = false) :
  ∃ l1 l2, xs = l1 ++ l2 ∧ (findS t.2.2.2 t.2.1 head xs).1.link = endA head l1 ∧ (findS t.2.2.2 t.2.1 head xs).1.node = fstL l2 ∧ (∀ x ∈ l1, x.2.2.2 < t.2.2.2 ∨ (x.2.2.2 = t.2.2.2 ∧ x.2.1 < t.2.1)) ∧ (∀ x r, l2 = x :: r → t.2.2.2 < x.2.2.2 ∨ (t.2.2.2 = x.2.2.2 ∧ t.2.1 < x.2.1)) ∧ ChainL (putM' M (findS t.2.2.2 t.2.1 head xs).1.link t (findS t.2.2.2 t.2.1 head xs).1.node) head (l1 ++ t :: l2) ∧ (∀ k, k ≤ 4 → ChainL ⟨putW M t (findS t.2.2.2 t.2.1 head xs).1.node k, M.L, M.F⟩ head xs) := by
 obtain ⟨f1, f2⟩ := fitsP_spec hf
 obtain ⟨o1, o2, o3, -⟩ := okM_spec hok
 have hl : ∀ k, k < 4 → posL t.1 k < M.W.length := fun k hk => by have := live_lt (f2 k hk).1; omega
 obtain ⟨l1, l2, e1, e2, e3, e4, e5, -⟩ := findS_split t.2.2.2 t.2.1 head xs
 have off : ∀ w ∈ wordsL head xs, ∀ j, j < 4 → w ≠ posL t.1 j := fun w hw j hj e => (f2 j hj).2 (by rw [← e]; exact hw)
 have hst : ∀ k, ChainL ⟨putW M t (findS t.2.2.2 t.2.1 head xs).1.node k, M.L, M.F⟩ head xs := fun k => chain_other h fun w hw => putW_other hl k w (off w hw)
 refine ⟨l1, l2, e1, e2, e3, e4, e5 hn, ?_, fun k _ => hst k⟩
 have hE : posL (findS t.2.2.2 t.2.1 head xs).1.link 0 = endL (posL head 0) l1 := by
  rw [e2]
  exact endA_word hok l1 head (fun w hw => h.live w (by rw [e1, words_append]; exact List.mem_append_left _ (List.mem_cons_of_mem _ hw)))
 have hEm : endL (posL head 0) l1 ∈ wordsL head xs := by rw [e1, words_append]; exact List.mem_append_left _ (endL_mem l1 _)
 have hEl : endL (posL head 0) l1 < (putW M t (findS t.2.2.2 t.2.1 head xs).1.node 4).length := by
  rw [putW_len]; have := live_lt (h.live _ hEm); omega
 have hoff := off _ hEm
 obtain ⟨nx, hnx⟩ := nm ((findS t.2.2.2 t.2.1 head xs).1.node)
 rw [hnx] at hst hEl e3 ⊢
 unfold putM'
 rw [hE]
 have rd4 : ∀ w, w ≠ endL (posL head 0) l1 → rdL ((putW M t nx 4).set (endL (posL head 0) l1) t.1) w = rdL (putW M t nx 4) w := fun w hw => rdL_other hEl hw
 have q0 := hl 0 (by decide)
 have q1 := hl 1 (by decide)
 have q2 := hl 2 (by decide)
 have q3 := hl 3 (by decide)
 have w2 : rdL (putW M t nx 4) (posL t.1 2) = nx := rdL_same (by simpa using q2)
 have w3 : rdL (putW M t nx 4) (posL t.1 3) = t.2.2.2 := by
  show rdL ((((M.W.set (posL t.1 0) t.2.1).set (posL t.1 1) t.2.2.1).set (posL t.1 3) t.2.2.2).set (posL t.1 2) nx) (posL t.1 3) = _
  rw [rdL_other (by simpa using q2) (posL_ne (by decide)), rdL_same (by simpa using q3)]
 have w1 : rdL (putW M t nx 4) (posL t.1 1) = t.2.2.1 := by
  show rdL ((((M.W.set (posL t.1 0) t.2.1).set (posL t.1 1) t.2.2.1).set (posL t.1 3) t.2.2.2).set (posL t.1 2) nx) (posL t.1 1) = _
  rw [rdL_other (by simpa using q2) (posL_ne (by decide)), rdL_other (by simpa using q3) (posL_ne (by decide)), rdL_same (by simpa using q1)]
 have w0 : rdL (putW M t nx 4) (posL t.1 0) = t.2.1 := by
  show rdL ((((M.W.set (posL t.1 0) t.2.1).set (posL t.1 1) t.2.2.1).set (posL t.1 3) t.2.2.2).set (posL t.1 2) nx) (posL t.1 0) = _
  rw [rdL_other (by simpa using q2) (posL_ne (by decide)), rdL_other (by simpa using q3) (posL_ne (by decide)), rdL_other (by simpa using q1) (posL_ne (by decide)), rdL_same q0]
 have hne : ∀ j, j < 4 → posL t.1 j ≠ endL (posL head 0) l1 := fun j hj e => hoff j hj e.symm
 refine ⟨?_, ?_, ?_, ?_⟩
 ·exact nodup_ins (by rw [← e1]; exact h.nd) (fun k hk => by rw [← e1]; exact (f2 k hk).2)
 ·intro w hw
  rcases (words_ins w).1 hw with hw | hw
  ·simp only [List.mem_cons, List.not_mem_nil, or_false] at hw
   rcases hw with rfl | rfl | rfl | rfl
   ·exact (f2 0 (by decide)).1
   ·exact (f2 1 (by decide)).1
   ·exact (f2 2 (by decide)).1
   ·exact (f2 3 (by decide)).1
  ·exact h.live w (by rw [e1]; exact hw)
 ·refine lnk_ins (W := M.W) (by rw [← e1]; exact h.nd) (by rw [← e1]; exact h.fw) f1 (fun w hw he => ?_) (rdL_same hEl) ?_ ?_ ?_ ?_
  ·rw [rd4 w he]; exact putW_other hl 4 w (off w (by rw [e1]; exact hw))
  ·rw [rd4 _ (hne 0 (by decide))]; exact w0
  ·rw [rd4 _ (hne 1 (by decide))]; exact w1
  ·rw [rd4 _ (hne 3 (by decide))]; exact w3
  ·rw [rd4 _ (hne 2 (by decide)), w2]; exact e3
 ·exact incr_ins (by rw [← e1]; exact h.inc) e4 (e5 hn)
theorem cut_law2 {M : Mem} {head hash key : Nat} {xs : List Nd} (hok : okM M = true) (h : ChainL M head xs) (hf : (findS hash key head xs).1.found = true) :
  ∃ l1 t l2, xs = l1 ++ t :: l2 ∧ (findS hash key head xs).1.link = endA head l1 ∧ (∀ x ∈ l1, x.2.2.2 < hash ∨ (x.2.2.2 = hash ∧ x.2.1 < key)) ∧ t.2.1 = key ∧ t.2.2.2 = hash ∧ (findS hash key head xs).1.node = t.1 ∧ (findS hash key head xs).1.val = t.2.2.1 ∧ ChainL (cutM M (findS hash key head xs).1.link t.1) head (l1 ++ l2) ∧ wAt M t.1 2 = fstL l2 ∧ wAt (cutM M (findS hash key head xs).1.link t.1) t.1 2 = fstL l2 ∧ (∀ x ∈ l1, x.1 ≠ t.1) ∧ liveN M (posL t.1 2) = true := by
 obtain ⟨l1, l2', e1, e2, e3, e4, -, e6⟩ := findS_split hash key head xs
 obtain ⟨t, l2, rfl, q1, q2, q3⟩ := e6 hf
 obtain ⟨o1, o2, o3, -⟩ := okM_spec hok
 have hE : posL (findS hash key head xs).1.link 0 = endL (posL head 0) l1 := by
  rw [e2]
  exact endA_word hok l1 head (fun w hw => h.live w (by rw [e1, words_append]; exact List.mem_append_left _ (List.mem_cons_of_mem _ hw)))
 have hEm : endL (posL head 0) l1 ∈ wordsL head xs := by rw [e1, words_append]; exact List.mem_append_left _ (endL_mem l1 _)
 have hEl : endL (posL head 0) l1 < M.W.length := by have := live_lt (h.live _ hEm); omega
 have hnx : wAt M t.1 2 = fstL l2 := lnk_mid (W := M.W) (a := posL head 0) (l1 := l1) (by rw [← e1]; exact h.fw)
 have hnd := h.nd
 rw [e1, words_append] at hnd
 obtain ⟨n1, n2, n3⟩ := List.nodup_append.1 hnd
 have htw : ∀ k, k < 4 → posL t.1 k ∈ wlL (t :: l2) := fun k hk => mem_wlL (List.mem_cons_self ..) k hk
 have hne : posL t.1 2 ≠ endL (posL head 0) l1 := fun e => n3 _ (endL_mem l1 _) _ (htw 2 (by decide)) e.symm
 refine ⟨l1, t, l2, e1, e2, e4, q1, q2, e3, q3, ?_, hnx, ?_, fun x hx e => ?_, h.live _ (by rw [e1, words_append]; exact List.mem_append_right _ (htw 2 (by decide)))⟩
 ·unfold cutM
  rw [hE, hnx]
  refine ⟨nodup_rem (by rw [← e1]; exact h.nd), fun w hw => h.live w (by rw [e1]; exact (words_ins w).2 (.inr hw)), ?_, (incr_rem (by rw [← e1]; exact h.inc)).1⟩
  exact lnk_rem (W := M.W) (by rw [← e1]; exact h.nd) (by rw [← e1]; exact h.fw) (fun w hw he => rdL_other hEl he) (rdL_same hEl)
 ·unfold cutM
  rw [hE]
  exact (rdL_other hEl hne).trans hnx
 ·have := mem_wlL (xs := l1) hx 0 (by decide)
  rw [e] at this
  exact n3 _ (List.mem_cons_of_mem _ this) _ (htw 0 (by decide)) rfl
theorem endA_snoc : ∀ (l : List Nd) (p : Nd) (a : Nat), endA a (l ++ [p]) = p.1 + 2
 | [], p, a => rfl
 | t :: ts, p, a => endA_snoc ts p (t.1 + 2)
theorem ahead_asym {a b : Nd} (h : aheadN a b = true) : aheadN b a = false := by
 rw [ahead_iff] at h
 cases e : aheadN b a with
 | false => rfl
 | true => rw [ahead_iff] at e; omega
theorem ahead_irr (a : Nd) : aheadN a a = false := by
 cases e : aheadN a a with
 | false => rfl
 | true => rw [ahead_iff] at e; omega
/-- Who is behind a link of the list. -/
theorem link_ahead {M : Mem} {head : Nat} {pub l1 l2 : List Nd} {X : Nd} (h : PInv M head pub) (hs : ∀ x ∈ l1, x ∈ pub) (hi : incr (l1 ++ l2) = true) (hX : X ∈ l1 ++ l2) (hc : endA head l1 = head ∨ ∃ p ∈ pub, endA head l1 = p.1 + 2 ∧ aheadN p X = true) : X ∈ l2 := by
 rcases List.mem_append.1 hX with hX | hX
 ·exfalso
  rcases nil_or_snoc l1 with rfl | ⟨l, p, rfl⟩
  ·cases hX
  ·rw [endA_snoc] at hc
   have hp : p ∈ pub := hs p (List.mem_append_right _ (List.mem_singleton.2 rfl))
   have ha : aheadN p X = true := by
    rcases hc with hc | ⟨q, hq, e, ha⟩
    ·exact absurd (by rw [← (h.link hp).1, hc] : posL head 0 = posL p.1 2) (nodup_head h.nd hp (by decide))
    ·rw [h.unique hp hq (by omega)]; exact ha
   rw [incr_pw, List.pairwise_append] at hi
   rcases List.mem_append.1 hX with hX | hX
   ·have := (List.pairwise_append.1 hi.1).2.2 X hX p (List.mem_singleton.2 rfl)
    rw [ahead_asym this] at ha
    cases ha
   ·rw [List.mem_singleton] at hX
    subst hX
    rw [ahead_irr] at ha
    cases ha
 ·exact hX
/-- The first of those behind a link is at most any of them. -/
theorem fst_le {l1 l2 : List Nd} {X : Nd} (hi : incr (l1 ++ l2) = true) (hX : X ∈ l2) : ∃ q ∈ l2, q.1 = fstL l2 ∧ aheadN X q = false := by
 cases l2 with
 | nil => cases hX
 | cons q r =>
  refine ⟨q, List.mem_cons_self .., rfl, ?_⟩
  rw [incr_pw] at hi
  have h2 := (List.pairwise_append.1 hi).2.1
  rcases List.mem_cons.1 hX with rfl | hX
  ·exact ahead_irr _
  ·exact ahead_asym ((List.pairwise_cons.1 h2).1 X hX)
/-- Where a row parts at a node. -/
theorem posN_split {l1 l2 : List Nd} {t : Nd} (h1 : ∀ x ∈ l1, aheadN x t = true) (h2 : ∀ x r, l2 = x :: r → aheadN x t = false) : posN (l1 ++ l2) t = l1.length := by
 induction l1 with
 | nil =>
  unfold posN
  cases l2 with
  | nil => rfl
  | cons x r => rw [List.nil_append, List.takeWhile_cons, h2 x r rfl]; rfl
 | cons y ys ih =>
  unfold posN at ih ⊢
  rw [List.cons_append, List.takeWhile_cons, h1 y (List.mem_cons_self ..), if_pos rfl, List.length_cons, ih (fun x hx => h1 x (List.mem_cons_of_mem _ hx)), List.length_cons]
/-- What is sought is found if the row has it. -/
theorem found_has {head : Nat} {xs : List Nd} {t : Nd} : (findS t.2.2.2 t.2.1 head xs).1.found = hasAt xs (posN xs t) t := by
 obtain ⟨l1, l2, e1, -, -, e4, e5, e6⟩ := findS_split t.2.2.2 t.2.1 head xs
 have h1 : ∀ x ∈ l1, aheadN x t = true := fun x hx => (ahead_iff _ _).2 (e4 x hx)
 cases hf : (findS t.2.2.2 t.2.1 head xs).1.found with
 | true =>
  obtain ⟨x, r, rfl, hk, hh, -⟩ := e6 hf
  have h2 : ∀ y r', x :: r = y :: r' → aheadN y t = false := fun y r' e => by
   cases e
   cases ea : aheadN x t with
   | false => rfl
   | true => rw [ahead_iff] at ea; omega
  rw [e1, posN_split h1 h2]
  unfold hasAt
  rw [List.getElem?_append_right (Nat.le_refl _), Nat.sub_self]
  simp [hk, hh]
 | false =>
  have h2 : ∀ y r', l2 = y :: r' → aheadN y t = false := fun y r' e => ahead_asym ((ahead_iff _ _).2 (e5 hf y r' e))
  rw [e1, posN_split h1 h2]
  unfold hasAt
  rw [List.getElem?_append_right (Nat.le_refl _), Nat.sub_self]
  cases l2 with
  | nil => rfl
  | cons y r' =>
   have := e5 hf y r' rfl
   simp
   omega
/-- A list behind a job that finds what it is about, or not. -/
theorem stepJ_put {l1 l2 : List Nd} {t : Nd} {head : Nat} (hf : (findS t.2.2.2 t.2.1 head (l1 ++ l2)).1.found = false) (h1 : ∀ x ∈ l1, x.2.2.2 < t.2.2.2 ∨ (x.2.2.2 = t.2.2.2 ∧ x.2.1 < t.2.1)) (h2 : ∀ x r, l2 = x :: r → t.2.2.2 < x.2.2.2 ∨ (t.2.2.2 = x.2.2.2 ∧ t.2.1 < x.2.1)) : stepJ (l1 ++ l2) (false, t) = l1 ++ t :: l2 := by
 have hp : posN (l1 ++ l2) t = l1.length := posN_split (fun x hx => (ahead_iff _ _).2 (h1 x hx)) (fun x r e => ahead_asym ((ahead_iff _ _).2 (h2 x r e)))
 rw [found_has] at hf
 unfold stepJ
 dsimp only
 rw [hf, hp, if_neg (by simp), if_pos ⟨rfl, rfl⟩, List.take_left, List.drop_left]
theorem stepJ_cut {l1 l2 : List Nd} {t n : Nd} {head : Nat} (hf : (findS n.2.2.2 n.2.1 head (l1 ++ t :: l2)).1.found = true) (h1 : ∀ x ∈ l1, x.2.2.2 < n.2.2.2 ∨ (x.2.2.2 = n.2.2.2 ∧ x.2.1 < n.2.1)) (hk : t.2.1 = n.2.1) (hh : t.2.2.2 = n.2.2.2) : stepJ (l1 ++ t :: l2) (true, n) = l1 ++ l2 := by
 have hp : posN (l1 ++ t :: l2) n = l1.length := posN_split (fun x hx => (ahead_iff _ _).2 (h1 x hx)) (fun x r e => by
  cases e
  cases ea : aheadN t n with
  | false => rfl
  | true => rw [ahead_iff] at ea; omega)
 rw [found_has] at hf
 unfold stepJ
 dsimp only
 rw [hf, hp, if_pos ⟨rfl, rfl⟩, List.eraseIdx_append_of_length_le (Nat.le_refl _), Nat.sub_self]
 rfl
theorem stepJ_none {xs : List Nd} {j : Jb} {head : Nat} (h : j.1 ≠ (findS j.2.2.2.2 j.2.2.1 head xs).1.found) : stepJ xs j = xs := by
 rw [found_has] at h
 obtain ⟨c, t⟩ := j
 unfold stepJ
 dsimp only at h ⊢
 cases c <;> cases e : hasAt xs (posN xs t) t
 ·rw [e] at h; exact absurd rfl h
 ·rw [if_neg (by simp), if_neg (by simp)]
 ·rw [if_neg (by simp), if_neg (by simp)]
 ·rw [e] at h; exact absurd rfl h
end Go.Proofs.YtipohagcppfgiaaGreat
namespace Go.Proofs.YtipohagcppfgiaaGreat
open Go.RowKit
open Go.Proofs
set_option linter.unusedVariables false
/-- The nodes that are to be put. -/
def putsOf (js : List Jb) : List Nd := js.filterMap fun j => if j.1 = true then none else some j.2
theorem putsOf_snoc (js : List Jb) (j : Jb) : putsOf (js ++ [j]) = putsOf js ++ (if j.1 = true then [] else [j.2]) := by
 unfold putsOf
 rw [List.filterMap_append]
 cases h : j.1 <;> simp [h]
/-- A seek, so many steps. -/
def seekIt (M : Mem) : Nat → Sk → Sk
 | 0, s => s
 | n + 1, s => (seekE M (seekIt M n s)).2.1
theorem seekFix_it {M : Mem} (s0 : Sk) : ∀ (n F c : Nat), (∀ i, i < n → (seekIt M i s0).ph < 4) → n ≤ F → seekFix F M s0 c = seekFix (F - n) M (seekIt M n s0) (c + n)
 | 0, F, c, _, _ => rfl
 | n + 1, F, c, h, hF => by
  rw [seekFix_it s0 n F c (fun i hi => h i (by omega)) (by omega)]
  obtain ⟨g, hg⟩ : ∃ g, F - n = g + 1 := ⟨F - n - 1, by omega⟩
  have h4 : ¬ 4 ≤ (seekIt M n s0).ph := by have := h n (by omega); omega
  rw [hg, show F - (n + 1) = g by omega]
  conv => lhs; unfold seekFix
  rw [if_neg h4]
  rfl
theorem seek_end' {M : Mem} {s0 r : Sk} {F n c : Nat} (hf : seekFix F M s0 0 = (r, c)) (hr : r.ph = 4) (h : ∀ i, i ≤ n → (seekIt M i s0).ph < 4) (h4 : (seekIt M (n + 1) s0).ph = 4) : seekIt M (n + 1) s0 = r := by
 by_cases hn : n + 1 ≤ F
 ·rw [seekFix_it _ (n + 1) F 0 (fun i hi => h i (by omega)) hn, seekFix_end (by omega)] at hf
  exact congrArg (·.1) hf
 ·exfalso
  rw [seekFix_it _ F F 0 (fun i hi => h i (by omega)) (Nat.le_refl _), Nat.sub_self] at hf
  have h1 := h F (by omega)
  have h2 : (seekFix 0 M (seekIt M F s0) (0 + F)).1 = seekIt M F s0 := rfl
  rw [hf] at h2
  rw [← h2] at h1
  dsimp only at h1
  omega
/-- A seek that is over has come to what there is to find. -/
theorem seek_end {M : Mem} {head hash key n : Nat} {xs : List Nd} (hok : okM M = true) (hc : ChainL M head xs) (h : ∀ i, i ≤ n → (seekIt M i (seekK head hash key)).ph < 4) (h4 : (seekIt M (n + 1) (seekK head hash key)).ph = 4) :
  seekIt M (n + 1) (seekK head hash key) = (findS hash key head xs).1 :=
 seek_end' (find_run hok (of_chain hok hc) hash key).2 (findS_ph _ _ _ _) h h4
def phk : Nat → Int
 | 0 => 0
 | 1 => 1
 | 2 => 2
 | 3 => 3
 | _ => 5
/-- How far the writer is. -/
inductive Wst (M : Mem) (head : Nat) (pub xs : List Nd) (J : List Jb) (d : Nat) : Bool → Ede → Sk → Prop
 | idle (b : Bool) (e : Ede) (s : Sk) (h : J.length ≤ d) : Wst M head pub xs J d b e s
 | seek (j : Jb) (e : Ede) (n : Nat) (hj : J[d]? = some j) (h4 : ∀ i, i ≤ n → (seekIt M i (seekK head j.2.2.2.2 j.2.2.1)).ph < 4) (hb : RdB head pub (seekIt M n (seekK head j.2.2.2.2 j.2.2.1))) : Wst M head pub xs J d false e (seekIt M n (seekK head j.2.2.2.2 j.2.2.1))
 | cut4 (j : Jb) (s : Sk) (hj : J[d]? = some j) (hc : j.1 = true) (hf : (findS j.2.2.2.2 j.2.2.1 head xs).1.found = true) : Wst M head pub xs J d true (cutK (findS j.2.2.2.2 j.2.2.1 head xs).1.link (findS j.2.2.2.2 j.2.2.1 head xs).1.node) s
 | cut5 (j : Jb) (s : Sk) (hj : J[d]? = some j) (hc : j.1 = true) (hf : (findS j.2.2.2.2 j.2.2.1 head xs).1.found = true) : Wst M head pub xs J d true { cutK (findS j.2.2.2.2 j.2.2.1 head xs).1.link (findS j.2.2.2.2 j.2.2.1 head xs).1.node with ph := 5, next := wAt M (findS j.2.2.2.2 j.2.2.1 head xs).1.node 2 } s
 | put (j : Jb) (s : Sk) (M0 : Mem) (k : Nat) (hj : J[d]? = some j) (hc : j.1 = false) (hf : (findS j.2.2.2.2 j.2.2.1 head xs).1.found = false) (hk : k ≤ 4) (hM : M = ⟨putW M0 j.2 (findS j.2.2.2.2 j.2.2.1 head xs).1.node k, M0.L, M0.F⟩)
   (hp0 : PInv M0 head pub) (hch : ChainL M0 head xs) (hfit : fitsP M0 head xs j.2 = true) : Wst M head pub xs J d true { putK (findS j.2.2.2.2 j.2.2.1 head xs).1.link j.2 (findS j.2.2.2.2 j.2.2.1 head xs).1.node with ph := phk k } s
/-- What is given of a walk that may be. -/
structure WGiven (w : Wal) (xs0 : List Nd) : Prop where
 ok : WOk w
 okM : okM w.M = true
 F : w.M.F = false
 chain : ChainL w.M w.head xs0
 nd : (wordsL w.head (xs0 ++ putsOf w.J)).Nodup
 live : ∀ x ∈ wordsL w.head (xs0 ++ putsOf w.J), liveN w.M x = true
 put0 : ∀ t ∈ putsOf w.J, t.1 ≠ 0
/-- A node that the list has had all the time. -/
def Always (xs0 : List Nd) (J : List Jb) (d : Nat) (X : Nd) : Prop := ∀ i, i ≤ d → X ∈ afterL xs0 (J.take i)
/-- What holds at each moment. -/
structure WInv (w : Wal) (xs0 : List Nd) (g : Gst) (pub : List Nd) : Prop where
 d : g.done ≤ w.J.length
 L : g.M.L = w.M.L
 wok : ∀ x ∈ g.M.W, x < 18446744073709551616
 chain : ChainL g.M w.head (afterL xs0 (w.J.take g.done))
 p : PInv g.M w.head pub
 sub : pub.Sublist (xs0 ++ putsOf (w.J.take g.done))
 mem : ∀ x ∈ afterL xs0 (w.J.take g.done), x ∈ pub
 thru : ∀ X, Always xs0 w.J g.done X → Thru g.M w.head pub X
 st : Wst g.M w.head pub (afterL xs0 (w.J.take g.done)) w.J g.done g.edits g.ed g.wr
 rd : ∀ s ∈ g.R, RdB w.head pub s
 rdx : ∀ X, Always xs0 w.J g.done X → ∀ s ∈ g.R, X.2.2.2 = s.hash → X.2.1 = s.key → RdX w.head pub X s
 rk : g.R.map (fun s => (s.hash, s.key)) = w.K
 was : ∀ p ∈ pub, ∃ i, i ≤ g.done ∧ p ∈ afterL xs0 (w.J.take i)
theorem Always.less {xs0 : List Nd} {J : List Jb} {d d' : Nat} {X : Nd} (h : Always xs0 J d X) (hd : d' ≤ d) : Always xs0 J d' X := fun i hi => h i (by omega)
theorem take_next {J : List Jb} {d : Nat} {j : Jb} (h : J[d]? = some j) (xs0 : List Nd) : afterL xs0 (J.take (d + 1)) = stepJ (afterL xs0 (J.take d)) j := by rw [take_snoc h, afterL_snoc]
theorem sub_words {head : Nat} {a b : List Nd} (h : a.Sublist b) : (wordsL head a).Sublist (wordsL head b) := by
 rw [wordsL_eq, wordsL_eq]
 refine List.Sublist.cons_cons _ ?_
 induction h with
 | slnil => exact List.Sublist.refl _
 | cons x _ ih => rw [wlL_cons]; exact ih.trans (List.sublist_append_right _ _)
 | cons_cons x _ ih => rw [wlL_cons, wlL_cons]; exact (List.Sublist.refl _).append ih
/-- The start of a job. -/
theorem start_st {w : Wal} {xs0 : List Nd} (hg : WGiven w xs0) {M : Mem} {pub xs : List Nd} {d : Nat} {g : Gst} (hd : g.done = d) (hM : g.M = M) :
  Wst M w.head pub xs w.J d (beginsG w.J w.head g).edits (beginsG w.J w.head g).ed (beginsG w.J w.head g).wr := by
 subst hd
 subst hM
 cases h : w.J[g.done]? with
 | none => exact .idle _ _ _ (by rw [List.getElem?_eq_none_iff] at h; exact h)
 | some j =>
  have hj := hg.ok.jok _ (List.mem_of_getElem? h)
  have hk := seekK_ok hg.ok.hh hj.2.2.2 hj.2.1
  have e : (beginsG w.J w.head g).wr = seekK w.head j.2.2.2.2 j.2.2.1 := by unfold beginsG; rw [h]
  rw [e]
  refine Wst.seek j _ 0 h (fun i hi => ?_) ⟨hk, by show (0 : Int) ≤ 0; decide, by show (0 : Int) ≤ 4; decide, fun _ => .inl rfl, fun e' => ?_, fun e' => by cases e'⟩
  ·obtain rfl : i = 0 := by omega
   show (0 : Int) < 4
   decide
  ·have : (1 : Int) ≤ 0 := e'
   omega
/-- A job ends; the list is as it was. -/
theorem job_none {w : Wal} {xs0 : List Nd} (hg : WGiven w xs0) {g : Gst} {pub : List Nd} (h : WInv w xs0 g pub) {j : Jb} (hj : w.J[g.done]? = some j) (hs : stepJ (afterL xs0 (w.J.take g.done)) j = afterL xs0 (w.J.take g.done)) : WInv w xs0 (doneG w.J w.head g) pub := by
 have hd : g.done < w.J.length := (List.getElem?_eq_some_iff.1 hj).1
 have ht : afterL xs0 (w.J.take (g.done + 1)) = afterL xs0 (w.J.take g.done) := by rw [take_next hj, hs]
 refine ⟨by show g.done + 1 ≤ _; omega, h.L, h.wok, ?_, h.p, ?_, ?_, fun X hX => h.thru X (hX.less (by show g.done ≤ g.done + 1; omega)), ?_, h.rd, fun X hX => h.rdx X (hX.less (by show g.done ≤ g.done + 1; omega)), h.rk, fun p hp => let ⟨i, hi, hm⟩ := h.was p hp; ⟨i, by show i ≤ g.done + 1; omega, hm⟩⟩
 ·show ChainL g.M w.head (afterL xs0 (w.J.take (g.done + 1)))
  rw [ht]; exact h.chain
 ·show pub.Sublist (xs0 ++ putsOf (w.J.take (g.done + 1)))
  rw [take_snoc hj, putsOf_snoc, ← List.append_assoc]
  exact h.sub.trans (List.sublist_append_left _ _)
 ·show ∀ x ∈ afterL xs0 (w.J.take (g.done + 1)), x ∈ pub
  rw [ht]; exact h.mem
 ·show Wst g.M w.head pub (afterL xs0 (w.J.take (g.done + 1))) w.J (g.done + 1) _ _ _
  exact start_st hg (g := { g with done := g.done + 1 }) rfl rfl
end Go.Proofs.YtipohagcppfgiaaGreat
namespace Go.Proofs.YtipohagcppfgiaaGreat
open Go.RowKit
open Go.Proofs
set_option linter.unusedVariables false
theorem sseek_eq {M : Mem} {s s' : Sk} {b : Bool} (hok : okM M = true) (h0 : 0 ≤ s.ph) (h5 : s.ph ≤ 5) (h : seekE M s = (M, s', b)) : sseekP M s = (M, s', 0) := by
 unfold sseekP
 rw [hok, if_neg (by decide), if_neg (by omega), h]
theorem liveN_L {M M' : Mem} (h : M.L = M'.L) (q : Nat) : liveN M q = liveN M' q := by unfold liveN; rw [h]
/-- The node of a job fits. -/
theorem job_fits {w : Wal} {xs0 : List Nd} (hg : WGiven w xs0) {g : Gst} {pub : List Nd} (h : WInv w xs0 g pub) {j : Jb} (hj : w.J[g.done]? = some j) (hc : j.1 = false) :
  (pub ++ [j.2]).Sublist (xs0 ++ putsOf (w.J.take (g.done + 1))) ∧ (wordsL w.head (pub ++ [j.2])).Nodup ∧ (∀ k, k < 4 → liveN g.M (posL j.2.1 k) = true) ∧ j.2.1 ≠ 0 ∧ (∀ k, k < 4 → posL j.2.1 k ∉ wordsL w.head pub) ∧ fitsP g.M w.head (afterL xs0 (w.J.take g.done)) j.2 = true := by
 have hjm : j.2 ∈ putsOf w.J := by
  unfold putsOf
  rw [List.mem_filterMap]
  exact ⟨j, List.mem_of_getElem? hj, by rw [hc]; rfl⟩
 have h1 : (pub ++ [j.2]).Sublist (xs0 ++ putsOf (w.J.take (g.done + 1))) := by
  rw [take_snoc hj, putsOf_snoc, hc, ← List.append_assoc]
  exact h.sub.append (List.Sublist.refl _)
 have h2 : (putsOf (w.J.take (g.done + 1))).Sublist (putsOf w.J) := (List.take_sublist _ _).filterMap _
 have h3 : (wordsL w.head (pub ++ [j.2])).Nodup := (sub_words (h1.trans ((List.Sublist.refl _).append h2))).nodup hg.nd
 have h4 : ∀ k, k < 4 → liveN g.M (posL j.2.1 k) = true := fun k hk => by
  rw [liveN_L h.L]
  exact hg.live _ (by rw [wordsL_eq]; exact List.mem_cons_of_mem _ (mem_wlL (List.mem_append_right _ hjm) k hk))
 have h5 := hg.put0 _ hjm
 have h6 : ∀ k, k < 4 → posL j.2.1 k ∉ wordsL w.head pub := fun k hk hm => by
  rw [words_append] at h3
  have := (List.nodup_append.1 h3).2.2 _ (by rw [wordsL_eq] at hm; exact hm) _ (mem_wlL (List.mem_singleton.2 rfl) k hk)
  exact this rfl
 refine ⟨h1, h3, h4, h5, h6, ?_⟩
 unfold fitsP
 rw [Bool.and_eq_true]
 refine ⟨decide_eq_true h5, ?_⟩
 rw [List.all_eq_true]
 intro k hk
 have hk4 : k < 4 := by simp [List.mem_range'_1] at hk; omega
 rw [Bool.and_eq_true]
 refine ⟨h4 k hk4, ?_⟩
 rw [Bool.not_eq_true', decide_eq_false_iff_not]
 intro hm
 refine h6 k hk4 ?_
 rw [wordsL_eq] at hm ⊢
 rcases List.mem_cons.1 hm with e | hm
 ·rw [e]; exact List.mem_cons_self ..
 ·refine List.mem_cons_of_mem _ ?_
  unfold wlL at hm ⊢
  obtain ⟨x, hx, hw⟩ := List.mem_flatMap.1 hm
  exact List.mem_flatMap.2 ⟨x, h.mem x hx, hw⟩
theorem putW4 {M : Mem} {t : Nd} {nx : Nat} (hl : ∀ k, k < 4 → posL t.1 k < M.W.length) : rdL (putW M t nx 4) (posL t.1 0) = t.2.1 ∧ rdL (putW M t nx 4) (posL t.1 1) = t.2.2.1 ∧ rdL (putW M t nx 4) (posL t.1 2) = nx ∧ rdL (putW M t nx 4) (posL t.1 3) = t.2.2.2 := by
 have q0 := hl 0 (by decide)
 have q1 := hl 1 (by decide)
 have q2 := hl 2 (by decide)
 have q3 := hl 3 (by decide)
 refine ⟨?_, ?_, rdL_same (by simpa using q2), ?_⟩
 ·show rdL ((((M.W.set (posL t.1 0) t.2.1).set (posL t.1 1) t.2.2.1).set (posL t.1 3) t.2.2.2).set (posL t.1 2) nx) (posL t.1 0) = _
  rw [rdL_other (by simpa using q2) (posL_ne (by decide)), rdL_other (by simpa using q3) (posL_ne (by decide)), rdL_other (by simpa using q1) (posL_ne (by decide)), rdL_same q0]
 ·show rdL ((((M.W.set (posL t.1 0) t.2.1).set (posL t.1 1) t.2.2.1).set (posL t.1 3) t.2.2.2).set (posL t.1 2) nx) (posL t.1 1) = _
  rw [rdL_other (by simpa using q2) (posL_ne (by decide)), rdL_other (by simpa using q3) (posL_ne (by decide)), rdL_same (by simpa using q1)]
 ·show rdL ((((M.W.set (posL t.1 0) t.2.1).set (posL t.1 1) t.2.2.1).set (posL t.1 3) t.2.2.2).set (posL t.1 2) nx) (posL t.1 3) = _
  rw [rdL_other (by simpa using q2) (posL_ne (by decide)), rdL_same (by simpa using q3)]
theorem sedit_ok {M M' : Mem} {e e' : Ede} {b : Bool} (hok : okM M = true) (hW : ∀ x ∈ M.W, x < 18446744073709551616) (he : e.Ok) (h0 : 0 ≤ e.ph) (h7 : e.ph ≤ 7) (h : editE M e = (M', e', b)) : seditP M e = (M', e', 0) ∧ okM M' = true ∧ (∀ x ∈ M'.W, x < 18446744073709551616) := by
 obtain ⟨k1, k2, -⟩ := editE_ok hok hW he h0 h7
 rw [h] at k1 k2
 refine ⟨?_, k1, k2⟩
 unfold seditP
 rw [hok, if_neg (by decide), if_neg (by omega), h]
/-- A step of the writer that seeks. -/
theorem write_seek {w : Wal} {xs0 : List Nd} (hg : WGiven w xs0) {M : Mem} {d : Nat} {e : Ede} {R : List Sk} {pub : List Nd} {j : Jb} {n : Nat} (hj : w.J[d]? = some j) (h : WInv w xs0 ⟨M, d, false, e, seekIt M n (seekK w.head j.2.2.2.2 j.2.2.1), R⟩ pub)
  (h4 : ∀ i, i ≤ n → (seekIt M i (seekK w.head j.2.2.2.2 j.2.2.1)).ph < 4) (hb : RdB w.head pub (seekIt M n (seekK w.head j.2.2.2.2 j.2.2.1))) :
  WInv w xs0 (seekG w.J w.head ⟨M, d, false, e, seekIt M n (seekK w.head j.2.2.2.2 j.2.2.1), R⟩) pub := by
 have hp := h.p
 have hw := h.wok
 dsimp only at hp hw
 have hn4 := h4 n (Nat.le_refl _)
 obtain ⟨s', hse, hb', -, -, -, -⟩ := rd_step hp hw hb (by omega)
 have hit : seekIt M (n + 1) (seekK w.head j.2.2.2.2 j.2.2.1) = s' := by
  show (seekE M (seekIt M n _)).2.1 = s'
  rw [hse]
 have hsq := sseek_eq hp.ok hb.p0 (by omega) hse
 unfold seekG
 dsimp only
 rw [hsq]
 dsimp only
 by_cases hs4 : s'.ph = 4
 ·rw [if_pos hs4]
  have hfin := seek_end (n := n) hp.ok h.chain h4 (by rw [hit]; exact hs4)
  rw [hit] at hfin
  dsimp only at hfin
  unfold overG
  dsimp only
  rw [hj]
  dsimp only
  by_cases c1 : j.1 = true ∧ s'.found = true
  ·rw [if_pos c1]
   refine ⟨h.d, h.L, h.wok, h.chain, h.p, h.sub, h.mem, h.thru, ?_, h.rd, h.rdx, h.rk, h.was⟩
   dsimp only
   rw [hfin]
   exact .cut4 j _ hj c1.1 (by rw [← hfin]; exact c1.2)
  ·rw [if_neg c1]
   by_cases c2 : j.1 = false ∧ s'.found = false
   ·rw [if_pos c2]
    refine ⟨h.d, h.L, h.wok, h.chain, h.p, h.sub, h.mem, h.thru, ?_, h.rd, h.rdx, h.rk, h.was⟩
    dsimp only
    rw [hfin]
    exact .put j _ M 0 hj c2.1 (by rw [← hfin]; exact c2.2) (by decide) rfl hp h.chain (job_fits hg h hj c2.1).2.2.2.2.2
   ·rw [if_neg c2]
    show WInv w xs0 (doneG w.J w.head ⟨M, d, false, e, seekIt M n (seekK w.head j.2.2.2.2 j.2.2.1), R⟩) pub
    exact job_none hg h hj (stepJ_none (head := w.head) (by
     rw [← hfin]
     intro e
     cases hc : j.1 <;> cases hf : s'.found
     ·exact c2 ⟨hc, hf⟩
     ·rw [hc, hf] at e; cases e
     ·rw [hc, hf] at e; cases e
     ·exact c1 ⟨hc, hf⟩))
 ·rw [if_neg hs4]
  refine ⟨h.d, h.L, h.wok, h.chain, h.p, h.sub, h.mem, h.thru, ?_, h.rd, h.rdx, h.rk, h.was⟩
  dsimp only
  rw [← hit] at hb' hs4 ⊢
  refine .seek j e (n + 1) hj (fun i hi => ?_) hb'
  by_cases hi' : i = n + 1
  ·subst hi'; have := hb'.p4; omega
  ·exact h4 i (by omega)
/-- A job that cuts ends. -/
theorem cut_end {w : Wal} {xs0 : List Nd} (hg : WGiven w xs0) {M : Mem} {d : Nat} {eb : Bool} {e e' : Ede} {s : Sk} {R : List Sk} {pub : List Nd} {j : Jb} (hj : w.J[d]? = some j) (hc : j.1 = true) (h : WInv w xs0 ⟨M, d, eb, e, s, R⟩ pub)
  (hf : (findS j.2.2.2.2 j.2.2.1 w.head (afterL xs0 (w.J.take d))).1.found = true) (hok : okM (cutM M (findS j.2.2.2.2 j.2.2.1 w.head (afterL xs0 (w.J.take d))).1.link (findS j.2.2.2.2 j.2.2.1 w.head (afterL xs0 (w.J.take d))).1.node) = true)
  (hW : ∀ x ∈ (cutM M (findS j.2.2.2.2 j.2.2.1 w.head (afterL xs0 (w.J.take d))).1.link (findS j.2.2.2.2 j.2.2.1 w.head (afterL xs0 (w.J.take d))).1.node).W, x < 18446744073709551616) :
  WInv w xs0 (doneG w.J w.head ⟨cutM M (findS j.2.2.2.2 j.2.2.1 w.head (afterL xs0 (w.J.take d))).1.link (findS j.2.2.2.2 j.2.2.1 w.head (afterL xs0 (w.J.take d))).1.node, d, eb, e', s, R⟩) pub := by
 have hp := h.p
 have hch := h.chain
 have hmem := h.mem
 dsimp only at hp hch hmem
 have hd : d < w.J.length := (List.getElem?_eq_some_iff.1 hj).1
 obtain ⟨l1, t, l2, e1, e2, e4, q1, q2, q3, -, c1, c2, -⟩ := cut_law2 hp.ok hch hf
 have hnx : afterL xs0 (w.J.take (d + 1)) = l1 ++ l2 := by
  rw [take_next hj, e1, show j = (true, j.2) from by rw [← hc]]
  exact stepJ_cut (head := w.head) (by rw [← e1]; exact hf) e4 q1 q2
 rw [q3] at hok hW ⊢
 obtain ⟨lk, hlk⟩ := nm ((findS j.2.2.2.2 j.2.2.1 w.head (afterL xs0 (w.J.take d))).1.link)
 rw [hlk] at hok hW e2 c1 ⊢
 have hl1 : ∀ x ∈ l1, x ∈ pub := fun x hx => hmem x (by rw [e1]; exact List.mem_append_left _ hx)
 have ht : t ∈ pub := hmem t (by rw [e1]; exact List.mem_append_right _ (List.mem_cons_self ..))
 have hl : lk = w.head ∨ ∃ p ∈ pub, lk = p.1 + 2 := by rw [e2]; exact endA_pub l1 _ hl1 (.inl rfl)
 have hv : wAt M t.1 2 = 0 ∨ ∃ q ∈ pub, q.1 = wAt M t.1 2 := hp.nxt t ht
 have hP : PInv (cutM M lk t.1) w.head pub := link_store hp hl hv hok
 refine ⟨by show d + 1 ≤ _; omega, h.L, hW, ?_, hP, ?_, ?_, fun X hX => ?_, ?_, h.rd, fun X hX => h.rdx X (hX.less (by show d ≤ d + 1; omega)), h.rk, fun p hp => let ⟨i, hi, hm⟩ := h.was p hp; ⟨i, by show i ≤ d + 1; have : i ≤ d := hi; omega, hm⟩⟩
 ·show ChainL (cutM M lk t.1) w.head (afterL xs0 (w.J.take (d + 1)))
  rw [hnx]; exact c1
 ·show pub.Sublist (xs0 ++ putsOf (w.J.take (d + 1)))
  rw [take_snoc hj, putsOf_snoc, ← List.append_assoc]
  exact h.sub.trans (List.sublist_append_left _ _)
 ·show ∀ x ∈ afterL xs0 (w.J.take (d + 1)), x ∈ pub
  rw [hnx]
  intro x hx
  refine hmem x ?_
  rw [e1]
  rcases List.mem_append.1 hx with hx | hx
  ·exact List.mem_append_left _ hx
  ·exact List.mem_append_right _ (List.mem_cons_of_mem _ hx)
 ·have hXn : X ∈ l1 ++ l2 := by rw [← hnx]; exact hX (d + 1) (Nat.le_refl _)
  have hi : incr (l1 ++ l2) = true := c1.inc
  refine link_thru hp hl (h.thru X (hX.less (by show d ≤ d + 1; omega))) (fun hc => ?_)
  rw [e2] at hc
  obtain ⟨q, hq, hq1, hqa⟩ := fst_le hi (link_ahead hp hl1 hi hXn hc)
  exact ⟨q, hmem q (by rw [e1]; exact List.mem_append_right _ (List.mem_cons_of_mem _ hq)), by rw [hq1, c2], hqa⟩
 ·exact start_st hg (g := ⟨cutM M lk t.1, d + 1, eb, e', s, R⟩) rfl rfl
/-- A job that puts ends. -/
theorem put_end {w : Wal} {xs0 : List Nd} (hg : WGiven w xs0) {M0 : Mem} {d : Nat} {eb : Bool} {e e' : Ede} {s : Sk} {R : List Sk} {pub : List Nd} {j : Jb} {nx lk : Nat} (hj : w.J[d]? = some j) (hc : j.1 = false)
  (hnx : (findS j.2.2.2.2 j.2.2.1 w.head (afterL xs0 (w.J.take d))).1.node = nx) (hlk : (findS j.2.2.2.2 j.2.2.1 w.head (afterL xs0 (w.J.take d))).1.link = lk)
  (h : WInv w xs0 ⟨⟨putW M0 j.2 nx 4, M0.L, M0.F⟩, d, eb, e, s, R⟩ pub) (hf : (findS j.2.2.2.2 j.2.2.1 w.head (afterL xs0 (w.J.take d))).1.found = false)
  (hp0 : PInv M0 w.head pub) (hch : ChainL M0 w.head (afterL xs0 (w.J.take d))) (hfit : fitsP M0 w.head (afterL xs0 (w.J.take d)) j.2 = true) (hok : okM (putM' M0 lk j.2 nx) = true) (hW : ∀ x ∈ (putM' M0 lk j.2 nx).W, x < 18446744073709551616) :
  WInv w xs0 (doneG w.J w.head ⟨putM' M0 lk j.2 nx, d, eb, e', s, R⟩) (pub ++ [j.2]) := by
 have hp := h.p
 have hmem := h.mem
 dsimp only at hp hmem
 have hd : d < w.J.length := (List.getElem?_eq_some_iff.1 hj).1
 obtain ⟨f1, f2, f3, f4, f5, -⟩ := job_fits hg h hj hc
 dsimp only at f3
 obtain ⟨l1, l2, e1, e2, e3, e4, e5, c1, -⟩ := put_law2 hp0.ok hch hfit hf
 rw [hlk] at e2 c1
 rw [hnx] at e3 c1
 obtain ⟨t, ht⟩ := nm (j.2)
 rw [ht] at f1 f2 f3 f4 f5 e4 e5 c1 hok hW hp h ⊢
 have hlen : ∀ k, k < 4 → posL t.1 k < M0.W.length := fun k hk => by
  have := live_lt (f3 k hk)
  rw [show (⟨putW M0 t nx 4, M0.L, M0.F⟩ : Mem).L = M0.L from rfl, (okM_spec hp0.ok).2.2.1] at this
  exact this
 obtain ⟨w0, w1, w2, w3⟩ := putW4 (nx := nx) hlen
 have hn1 : afterL xs0 (w.J.take (d + 1)) = l1 ++ t :: l2 := by
  rw [take_next hj, e1, show j = (false, t) from by rw [← hc, ← ht]]
  rw [ht] at hf
  exact stepJ_put (head := w.head) (by rw [← e1]; exact hf) e4 e5
 have hl1 : ∀ x ∈ l1, x ∈ pub := fun x hx => hmem x (by rw [e1]; exact List.mem_append_left _ hx)
 have hl2 : ∀ x ∈ l2, x ∈ pub := fun x hx => hmem x (by rw [e1]; exact List.mem_append_right _ hx)
 have hs : ∀ x ∈ pub, x ∈ pub ++ [t] := fun x hx => List.mem_append_left _ hx
 have htm : t ∈ pub ++ [t] := List.mem_append_right _ (List.mem_singleton.2 rfl)
 have hPe : PInv ⟨putW M0 t nx 4, M0.L, M0.F⟩ w.head (pub ++ [t]) := by
  refine hp.ext f2 f3 ?_ f4 ?_
  ·show t = (t.1, rdL (putW M0 t nx 4) (posL t.1 0), rdL (putW M0 t nx 4) (posL t.1 1), rdL (putW M0 t nx 4) (posL t.1 3))
   rw [w0, w1, w3]
  ·show rdL (putW M0 t nx 4) (posL t.1 2) = 0 ∨ ∃ q ∈ pub, q.1 = rdL (putW M0 t nx 4) (posL t.1 2)
   rw [w2, e3]
   cases l2 with
   | nil => exact .inl rfl
   | cons q r => exact .inr ⟨q, hl2 q (List.mem_cons_self ..), rfl⟩
 have hl : lk = w.head ∨ ∃ p ∈ pub ++ [t], lk = p.1 + 2 := by rw [e2]; exact endA_pub l1 _ (fun x hx => hs x (hl1 x hx)) (.inl rfl)
 have hP : PInv (putM' M0 lk t nx) w.head (pub ++ [t]) := link_store hPe hl (.inr ⟨t, htm, rfl⟩) hok
 have hi : incr (l1 ++ t :: l2) = true := c1.inc
 refine ⟨by show d + 1 ≤ _; omega, h.L, hW, ?_, hP, f1, ?_, fun X hX => ?_, ?_, fun s hs' => (h.rd s hs').mono hs, fun X hX s hs' a b => (h.rdx X (hX.less (by show d ≤ d + 1; omega)) s hs' a b).mono hs, h.rk, fun p hp => ?was⟩
 case was =>
  rcases List.mem_append.1 hp with hp | hp
  ·obtain ⟨i, hi, hm⟩ := h.was p hp
   exact ⟨i, by show i ≤ d + 1; have : i ≤ d := hi; omega, hm⟩
  ·rw [List.mem_singleton] at hp
   subst hp
   exact ⟨d + 1, Nat.le_refl _, by rw [hn1]; exact List.mem_append_right _ (List.mem_cons_self ..)⟩
 ·show ChainL (putM' M0 lk t nx) w.head (afterL xs0 (w.J.take (d + 1)))
  rw [hn1]; exact c1
 ·show ∀ x ∈ afterL xs0 (w.J.take (d + 1)), x ∈ pub ++ [t]
  rw [hn1]
  intro x hx
  rcases List.mem_append.1 hx with hx | hx
  ·exact hs x (hl1 x hx)
  ·rcases List.mem_cons.1 hx with rfl | hx
   ·exact htm
   ·exact hs x (hl2 x hx)
 ·have hXn : X ∈ l1 ++ t :: l2 := by rw [← hn1]; exact hX (d + 1) (Nat.le_refl _)
  have hXo : X ∈ l1 ++ l2 := by rw [← e1]; exact hX d (by show d ≤ d + 1; omega)
  have hpw := (incr_pw _).1 hi
  rw [List.pairwise_append, List.pairwise_cons] at hpw
  have hXl : (X ∈ l1 ∧ aheadN X t = true) ∨ (X ∈ l2 ∧ aheadN t X = true) := by
   rcases List.mem_append.1 hXo with h' | h'
   ·exact .inl ⟨h', hpw.2.2 X h' t (List.mem_cons_self ..)⟩
   ·exact .inr ⟨h', hpw.2.1.1 X h'⟩
  have hT : Thru ⟨putW M0 t nx 4, M0.L, M0.F⟩ w.head (pub ++ [t]) X := by
   refine (h.thru X (hX.less (by show d ≤ d + 1; omega))).ext (fun ha => ?_) (fun hk => ?_)
   ·have hX2 : X ∈ l2 := by
     rcases hXl with ⟨-, h'⟩ | ⟨h', -⟩
     ·rw [ahead_asym ha] at h'; cases h'
     ·exact h'
    obtain ⟨q, hq, hq1, hqa⟩ := fst_le (l1 := l1) (by rw [← e1]; exact hch.inc) hX2
    refine ⟨q, hl2 q hq, ?_, hqa⟩
    show q.1 = rdL (putW M0 t nx 4) (posL t.1 2)
    rw [w2, e3, hq1]
   ·rcases hXl with ⟨-, h'⟩ | ⟨-, h'⟩ <;> (rw [ahead_iff] at h'; omega)
  refine link_thru hPe hl hT (fun hc => ⟨t, htm, rfl, ?_⟩)
  rw [e2] at hc
  rcases List.mem_cons.1 (link_ahead hPe (fun x hx => hs x (hl1 x hx)) hi hXn hc) with rfl | h'
  ·exact ahead_irr _
  ·exact ahead_asym (hpw.2.1.1 X h')
 ·exact start_st hg (g := ⟨putM' M0 lk t nx, d + 1, eb, e', s, R⟩) rfl rfl
end Go.Proofs.YtipohagcppfgiaaGreat
namespace Go.Proofs.YtipohagcppfgiaaGreat
open Go.RowKit
open Go.Proofs
set_option linter.unusedVariables false
/-- Words that read the same. -/
def rdL_eq (W W' : List Nat) (l : List Nat) : Prop := ∀ x ∈ l, rdL W x = rdL W' x
theorem cutK_ok {l n : Nat} (h1 : l < 18446744073709551616) (h2 : n < 18446744073709551616) : (cutK l n).Ok := ⟨by show (-9223372036854775808 : Int) ≤ 4 ∧ (4 : Int) ≤ _; decide, h1, h2, by show (0 : Nat) < _; decide, by show (0 : Nat) < _; decide, by show (0 : Nat) < _; decide, by show (0 : Nat) < _; decide⟩
theorem find_bounds {head hash key : Nat} {xs pub : List Nd} (hh : head < 18446744073709551616) (hs : ∀ x ∈ xs, x ∈ pub) (hb : ∀ x ∈ pub, x.1 < 4096) : (findS hash key head xs).1.link < 18446744073709551616 ∧ (findS hash key head xs).1.node < 18446744073709551616 := by
 obtain ⟨l1, l2, e1, e2, e3, -⟩ := findS_split hash key head xs
 constructor
 ·rcases findS_link (hash := hash) (key := key) head xs with e | ⟨x, hx, e⟩
  ·rw [e]; exact hh
  ·rw [e]; have := hb x (hs x hx); omega
 ·rw [e3]
  cases l2 with
  | nil => show (0 : Nat) < _; decide
  | cons q r => have := hb q (hs q (by rw [e1]; exact List.mem_append_right _ (List.mem_cons_self ..))); show q.1 < _; omega
theorem write_inv {w : Wal} {xs0 : List Nd} (hg : WGiven w xs0) {g : Gst} {pub : List Nd} (h : WInv w xs0 g pub) : ∃ pub', (∀ p ∈ pub, p ∈ pub') ∧ WInv w xs0 (writeG w.J w.head g) pub' := by
 obtain ⟨M, d, eb, e, s, R⟩ := g
 have hp := h.p
 have hw := h.wok
 have hd := h.d
 have hch := h.chain
 have hmem := h.mem
 have hst := h.st
 dsimp only at hp hw hd hch hmem hst
 unfold writeG
 dsimp only
 by_cases hdn : d = w.J.length
 ·rw [if_pos hdn]; exact ⟨pub, fun p hp => hp, h⟩
 ·rw [if_neg hdn]
  have hb4 : ∀ x ∈ pub, x.1 < 4096 := fun x hx => (hp.link hx).2
  cases hst with
  | idle b e s hi => omega
  | seek j e n hj h4 hb =>
   rw [if_neg (by decide)]
   exact ⟨pub, fun p hp => hp, write_seek hg hj h h4 hb⟩
  | cut4 j s hj hc hf =>
   rw [if_pos rfl]
   obtain ⟨b1, b2⟩ := find_bounds (hash := j.2.2.2.2) (key := j.2.2.1) hg.ok.hh hmem hb4
   obtain ⟨l1, t, l2, e1, e2, e4, q1, q2, q3, -⟩ := cut_law2 hp.ok hch hf
   have ht : t ∈ pub := hmem t (by rw [e1]; exact List.mem_append_right _ (List.mem_cons_self ..))
   have hE := editE_load (M := M) (s := cutK (findS j.2.2.2.2 j.2.2.1 w.head (afterL xs0 (w.J.take d))).1.link (findS j.2.2.2.2 j.2.2.1 w.head (afterL xs0 (w.J.take d))).1.node) (posL (findS j.2.2.2.2 j.2.2.1 w.head (afterL xs0 (w.J.take d))).1.node 2) rfl rfl (by rw [q3]; exact hp.word ht 2 (by decide))
   obtain ⟨k1, -, -⟩ := sedit_ok hp.ok hw (cutK_ok b1 b2) (by show (0 : Int) ≤ 4; decide) (by show (4 : Int) ≤ 7; decide) hE
   refine ⟨pub, fun p hp => hp, ?_⟩
   unfold editG
   dsimp only
   rw [k1]
   dsimp only
   rw [if_neg (by decide)]
   exact ⟨h.d, h.L, h.wok, h.chain, h.p, h.sub, h.mem, h.thru, .cut5 j _ hj hc hf, h.rd, h.rdx, h.rk, h.was⟩
  | cut5 j s hj hc hf =>
   rw [if_pos rfl]
   obtain ⟨b1, b2⟩ := find_bounds (hash := j.2.2.2.2) (key := j.2.2.1) hg.ok.hh hmem hb4
   obtain ⟨l1, t, l2, e1, e2, e4, q1, q2, q3, -⟩ := cut_law2 hp.ok hch hf
   have hlv : liveN M (posL (findS j.2.2.2.2 j.2.2.1 w.head (afterL xs0 (w.J.take d))).1.link 0) = true := hp.link_live (by rw [e2]; exact endA_pub l1 _ (fun x hx => hmem x (by rw [e1]; exact List.mem_append_left _ hx)) (.inl rfl))
   have hok5 : ({ cutK (findS j.2.2.2.2 j.2.2.1 w.head (afterL xs0 (w.J.take d))).1.link (findS j.2.2.2.2 j.2.2.1 w.head (afterL xs0 (w.J.take d))).1.node with ph := 5, next := wAt M (findS j.2.2.2.2 j.2.2.1 w.head (afterL xs0 (w.J.take d))).1.node 2 } : Ede).Ok := by
    have := cutK_ok b1 b2
    exact ⟨by show (-9223372036854775808 : Int) ≤ 5 ∧ (5 : Int) ≤ _; decide, this.link, this.at_, this.key, this.val, this.hash, wAt_lt hw _ _⟩
   have hE := editE_store (M := M) (s := { cutK (findS j.2.2.2.2 j.2.2.1 w.head (afterL xs0 (w.J.take d))).1.link (findS j.2.2.2.2 j.2.2.1 w.head (afterL xs0 (w.J.take d))).1.node with ph := 5, next := wAt M (findS j.2.2.2.2 j.2.2.1 w.head (afterL xs0 (w.J.take d))).1.node 2 }) 5 (posL (findS j.2.2.2.2 j.2.2.1 w.head (afterL xs0 (w.J.take d))).1.link 0) (wAt M (findS j.2.2.2.2 j.2.2.1 w.head (afterL xs0 (w.J.take d))).1.node 2) rfl (by decide) (by decide) rfl rfl hlv
   obtain ⟨k1, k2, k3⟩ := sedit_ok hp.ok hw hok5 (by show (0 : Int) ≤ 5; decide) (by show (5 : Int) ≤ 7; decide) hE
   refine ⟨pub, fun p hp => hp, ?_⟩
   unfold editG
   dsimp only
   rw [k1]
   dsimp only
   rw [if_pos (by decide)]
   exact cut_end hg hj hc h hf k2 k3
  | put j s M0 k hj hc hf hk hM hp0 hch0 hfit =>
   rw [if_pos rfl]
   obtain ⟨b1, b2⟩ := find_bounds (hash := j.2.2.2.2) (key := j.2.2.1) hg.ok.hh hmem hb4
   obtain ⟨l1, l2, e1, e2, e3, e4, e5, -, c2⟩ := put_law2 hp0.ok hch0 hfit hf
   obtain ⟨f1, f2, f3, f4, f5, -⟩ := job_fits hg h hj hc
   dsimp only at f3
   obtain ⟨nx, hnx⟩ := nm ((findS j.2.2.2.2 j.2.2.1 w.head (afterL xs0 (w.J.take d))).1.node)
   obtain ⟨lk, hlk⟩ := nm ((findS j.2.2.2.2 j.2.2.1 w.head (afterL xs0 (w.J.take d))).1.link)
   rw [hnx] at b2 e3 c2 hM h ⊢
   rw [hlk] at b1 e2 h ⊢
   have hjo := hg.ok.jok _ (List.mem_of_getElem? hj)
   have hL0 : M.L = M0.L := by rw [hM]
   have hlen : ∀ i, i < 4 → posL j.2.1 i < M0.W.length := fun i hi => by
    have := live_lt (f3 i hi)
    rw [hL0, (okM_spec hp0.ok).2.2.1] at this
    exact this
   have hph : 0 ≤ phk k ∧ phk k ≤ 5 := by
    have : k = 0 ∨ k = 1 ∨ k = 2 ∨ k = 3 ∨ k = 4 := by omega
    rcases this with rfl | rfl | rfl | rfl | rfl <;> exact ⟨by decide, by decide⟩
   have hokk : ({ putK lk j.2 nx with ph := phk k } : Ede).Ok := ⟨by dsimp only; omega, b1, hjo.1, hjo.2.1, hjo.2.2.1, hjo.2.2.2, b2⟩
   have off : ∀ x ∈ wordsL w.head pub, ∀ i, i < 4 → x ≠ posL j.2.1 i := fun x hx i hi e => f5 i hi (e ▸ hx)
   have hst : ∀ k', rdL_eq (putW M0 j.2 nx k') M0.W (wordsL w.head pub) := fun k' x hx => putW_other hlen k' x (off x hx)
   by_cases hk4 : k = 4
   ·subst hk4
    have hlv : liveN M (posL lk 0) = true := hp.link_live (by rw [e2]; exact endA_pub l1 _ (fun x hx => hmem x (by rw [e1]; exact List.mem_append_left _ hx)) (.inl rfl))
    have hE := editE_store (M := M) (s := { putK lk j.2 nx with ph := phk 4 }) 5 (posL lk 0) j.2.1 rfl (by decide) (by decide) rfl rfl hlv
    obtain ⟨k1, k2, k3⟩ := sedit_ok hp.ok hw hokk hph.1 (Int.le_trans hph.2 (by decide)) hE
    have hMM : (⟨M.W.set (posL lk 0) j.2.1, M.L, M.F⟩ : Mem) = putM' M0 lk j.2 nx := by rw [hM]; rfl
    rw [hMM] at k1 k2 k3
    refine ⟨pub ++ [j.2], fun p hp => List.mem_append_left _ hp, ?_⟩
    unfold editG
    dsimp only
    rw [k1]
    dsimp only
    rw [if_pos (by decide)]
    subst hM
    exact put_end hg hj hc hnx hlk h hf hp0 hch0 hfit k2 k3
   ·have step : editE M { putK lk j.2 nx with ph := phk k } = (⟨putW M0 j.2 nx (k + 1), M0.L, M0.F⟩, { putK lk j.2 nx with ph := phk (k + 1) }, true) := by
     have : k = 0 ∨ k = 1 ∨ k = 2 ∨ k = 3 := by omega
     rcases this with rfl | rfl | rfl | rfl
     ·have := editE_store (M := M) (s := { putK lk j.2 nx with ph := phk 0 }) 0 (posL j.2.1 0) j.2.2.1 rfl (by decide) (by decide) rfl rfl (f3 0 (by decide))
      rw [hM] at this ⊢
      exact this
     ·have := editE_store (M := M) (s := { putK lk j.2 nx with ph := phk 1 }) 1 (posL j.2.1 1) j.2.2.2.1 rfl (by decide) (by decide) rfl rfl (f3 1 (by decide))
      rw [hM] at this ⊢
      exact this
     ·have := editE_store (M := M) (s := { putK lk j.2 nx with ph := phk 2 }) 2 (posL j.2.1 3) j.2.2.2.2 rfl (by decide) (by decide) rfl rfl (f3 3 (by decide))
      rw [hM] at this ⊢
      exact this
     ·have := editE_store (M := M) (s := { putK lk j.2 nx with ph := phk 3 }) 3 (posL j.2.1 2) nx rfl (by decide) (by decide) rfl rfl (f3 2 (by decide))
      rw [hM] at this ⊢
      exact this
    have hE := step
    obtain ⟨k1, k2, k3⟩ := sedit_ok hp.ok hw hokk hph.1 (Int.le_trans hph.2 (by decide)) hE
    have hph1 : phk (k + 1) ≠ 6 := by
     have : k = 0 ∨ k = 1 ∨ k = 2 ∨ k = 3 := by omega
     rcases this with rfl | rfl | rfl | rfl <;> decide
    have hsame : rdL_eq (putW M0 j.2 nx (k + 1)) M.W (wordsL w.head pub) := fun x hx => by rw [hst (k + 1) x hx, hM]; exact (hst k x hx).symm
    refine ⟨pub, fun p hp => hp, ?_⟩
    unfold editG
    dsimp only
    rw [k1]
    dsimp only
    rw [if_neg hph1]
    refine ⟨h.d, by rw [← h.L]; exact hL0.symm, k3, ?_, hp0.congr k2 rfl rfl (hst (k + 1)), h.sub, h.mem, fun X hX => ?_, ?_, h.rd, h.rdx, h.rk, h.was⟩
    ·exact c2 (k + 1) (by omega)
    ·exact (h.thru X hX).congr hsame
    ·have := Wst.put (M := ⟨putW M0 j.2 nx (k + 1), M0.L, M0.F⟩) (head := w.head) (pub := pub) (xs := afterL xs0 (w.J.take d)) (J := w.J) (d := d) j s M0 (k + 1) hj hc hf (by omega) (by rw [hnx]) hp0 hch0 hfit
     rw [hnx, hlk] at this
     exact this
end Go.Proofs.YtipohagcppfgiaaGreat
namespace Go.Proofs.YtipohagcppfgiaaGreat
open Go.RowKit
open Go.Proofs
set_option linter.unusedVariables false
theorem takeN_list {M : Mem} : ∀ {k p : Nat} {met met' : List Nat}, takeN M p k met = some met' → met' = met ++ List.range' p k
 | 0, p, met, met', h => by cases h; simp
 | k + 1, p, met, met', h => by
  unfold takeN at h
  split at h
  ·rw [takeN_list h, List.append_assoc]; rfl
  ·cases h
theorem w4L_range {t : Nd} (h : t.1 < 4096) : w4L t = List.range' t.1 4 := by
 have : ∀ k, posL t.1 k = t.1 + k := fun k => by unfold posL; omega
 show [posL t.1 0, posL t.1 1, posL t.1 2, posL t.1 3] = _
 rw [this, this, this, this]
 rfl
theorem takes_list {M : Mem} : ∀ {xs : List Nd} {met met' : List Nat}, takes M xs met = some met' → met' = met ++ wlL xs ∧ (met.Nodup → met'.Nodup) ∧ ∀ w ∈ wlL xs, liveN M w = true
 | [], met, met', h => by cases h; exact ⟨by simp [wlL], id, by simp [wlL]⟩
 | x :: xs, met, met', h => by
  have h' : (takeW M x.1 4 met).bind (takes M xs) = some met' := h
  cases hx : takeW M x.1 4 met with
  | none => rw [hx] at h'; cases h'
  | some m =>
   rw [hx] at h'
   unfold takeW at hx
   split at hx
   ·cases hx
   ·rename_i hp
    have h1 := takeN_list hx
    obtain ⟨h2, h3, -⟩ := takeN_spec hx
    obtain ⟨r1, r2, r3⟩ := takes_list (show takes M xs m = some met' from h')
    have hw := w4L_range (t := x) (by omega)
    refine ⟨by rw [r1, h1, wlL_cons, hw, List.append_assoc], fun hn => r2 (h3 hn), fun w hm => ?_⟩
    rw [wlL_cons, List.mem_append] at hm
    rcases hm with hm | hm
    ·rw [hw, List.mem_range'_1] at hm
     have := h2 (w - x.1) (by omega)
     rwa [show x.1 + (w - x.1) = w by omega] at this
    ·exact r3 w hm
theorem takesJ_list {M : Mem} : ∀ {js : List Jb} {met met' : List Nat}, takesJ M js met = some met' → met' = met ++ wlL (putsOf js) ∧ (met.Nodup → met'.Nodup) ∧ (∀ w ∈ wlL (putsOf js), liveN M w = true) ∧ ∀ t ∈ putsOf js, t.1 ≠ 0
 | [], met, met', h => by cases h; exact ⟨by simp [wlL, putsOf], id, by simp [wlL, putsOf], by simp [putsOf]⟩
 | (true, n) :: js, met, met', h => takesJ_list (js := js) h
 | (false, n) :: js, met, met', h => by
  have h' : (if n.1 = 0 then none else (takeW M n.1 4 met).bind (takesJ M js)) = some met' := h
  split at h'
  ·cases h'
  ·rename_i h0
   cases hx : takeW M n.1 4 met with
   | none => rw [hx] at h'; cases h'
   | some m =>
    rw [hx] at h'
    unfold takeW at hx
    split at hx
    ·cases hx
    ·rename_i hp
     have h1 := takeN_list hx
     obtain ⟨h2, h3, -⟩ := takeN_spec hx
     obtain ⟨r1, r2, r3, r4⟩ := takesJ_list (show takesJ M js m = some met' from h')
     have hw := w4L_range (t := n) (by omega)
     have hpj : putsOf ((false, n) :: js) = n :: putsOf js := rfl
     rw [hpj]
     refine ⟨by rw [r1, h1, wlL_cons, hw, List.append_assoc], fun hn => r2 (h3 hn), fun w hm => ?_, fun t ht => ?_⟩
     ·rw [wlL_cons, List.mem_append] at hm
      rcases hm with hm | hm
      ·rw [hw, List.mem_range'_1] at hm
       have := h2 (w - n.1) (by omega)
       rwa [show n.1 + (w - n.1) = w by omega] at this
      ·exact r3 w hm
     ·rcases List.mem_cons.1 ht with rfl | ht
      ·exact h0
      ·exact r4 t ht
theorem wGiven {w : Wal} (h : (wFault w).2 = 0) (ho : WOk w) : WGiven w (wFault w).1 := by
 obtain ⟨hok, hF, hr, met, hm⟩ := wFault_list h
 have hch := chain_of hr
 unfold wAll at hm
 cases h1 : takeW w.M w.head 1 [] with
 | none => rw [h1] at hm; cases hm
 | some m1 =>
  rw [h1] at hm
  dsimp only [Option.bind_some] at hm
  cases h2 : takes w.M (wFault w).1 m1 with
  | none => rw [h2] at hm; cases hm
  | some m2 =>
   rw [h2] at hm
   dsimp only [Option.bind_some] at hm
   unfold takeW at h1
   split at h1
   ·cases h1
   ·rename_i hp
    have e1 := takeN_list h1
    obtain ⟨l1, n1, -⟩ := takeN_spec h1
    obtain ⟨e2, n2, l2⟩ := takes_list h2
    obtain ⟨e3, n3, l3, z3⟩ := takesJ_list hm
    have hph : posL w.head 0 = w.head := by unfold posL; omega
    have hwd : wordsL w.head ((wFault w).1 ++ putsOf w.J) = met := by
     rw [words_append, e3, e2, e1, hph]
     rfl
    refine ⟨ho, hok, hF, hch, by rw [hwd]; exact n3 (n2 (n1 List.nodup_nil)), fun x hx => ?_, z3⟩
    rw [words_append, List.mem_append, List.mem_cons] at hx
    rcases hx with (rfl | hx) | hx
    ·rw [hph]; exact l1 0 (by decide)
    ·exact l2 x hx
    ·exact l3 x hx
theorem lnk_all {W : List Nat} : ∀ (xs : List Nd) (a : Nat), lnkL W a xs → (rdL W a = 0 ∨ ∃ q ∈ xs, q.1 = rdL W a) ∧ ∀ x ∈ xs, x.1 ≠ 0 ∧ rdL W (posL x.1 0) = x.2.1 ∧ rdL W (posL x.1 1) = x.2.2.1 ∧ rdL W (posL x.1 3) = x.2.2.2 ∧ (rdL W (posL x.1 2) = 0 ∨ ∃ q ∈ xs, q.1 = rdL W (posL x.1 2))
 | [], a, h => ⟨.inl h, fun x hx => by cases hx⟩
 | t :: ts, a, h => by
  obtain ⟨q1, q2, q3, q4, q5, q6⟩ := h
  obtain ⟨r1, r2⟩ := lnk_all ts _ q6
  refine ⟨.inr ⟨t, List.mem_cons_self .., q1.symm⟩, fun x hx => ?_⟩
  rcases List.mem_cons.1 hx with rfl | hx
  ·exact ⟨q2, q3, q4, q5, r1.imp id fun ⟨q, hq, e⟩ => ⟨q, List.mem_cons_of_mem _ hq, e⟩⟩
  ·obtain ⟨s1, s2, s3, s4, s5⟩ := r2 x hx
   exact ⟨s1, s2, s3, s4, s5.imp id fun ⟨q, hq, e⟩ => ⟨q, List.mem_cons_of_mem _ hq, e⟩⟩
theorem chain_pinv {M : Mem} {head : Nat} {xs : List Nd} (hok : okM M = true) (hF : M.F = false) (h : ChainL M head xs) : PInv M head xs := by
 obtain ⟨h1, h2⟩ := lnk_all xs _ h.fw
 refine ⟨hok, hF, h.nd, h.live, fun p hp => ⟨?_, (h2 p hp).1⟩, fun p hp => (h2 p hp).2.2.2.2, h1⟩
 obtain ⟨-, s2, s3, s4, -⟩ := h2 p hp
 show p = (p.1, rdL M.W (posL p.1 0), rdL M.W (posL p.1 1), rdL M.W (posL p.1 3))
 rw [s2, s3, s4]
theorem incr_one {xs : List Nd} (hi : incr xs = true) {p q : Nd} (hp : p ∈ xs) (hq : q ∈ xs) (e1 : p.2.2.2 = q.2.2.2) (e2 : p.2.1 = q.2.1) : p = q := by
 rw [incr_pw] at hi
 induction xs with
 | nil => cases hp
 | cons y ys ih =>
  rw [List.pairwise_cons] at hi
  rcases List.mem_cons.1 hp with rfl | hp' <;> rcases List.mem_cons.1 hq with rfl | hq'
  ·rfl
  ·have := hi.1 q hq'; rw [ahead_iff] at this; omega
  ·have := hi.1 p hp'; rw [ahead_iff] at this; omega
  ·exact ih hi.2 hp' hq'
theorem chain_thru {M : Mem} {head : Nat} {xs : List Nd} {X : Nd} (h : ChainL M head xs) (hX : X ∈ xs) : Thru M head xs X := by
 refine ⟨hX, fun p hp ha => ?_, ?_, fun q hq e1 e2 => incr_one h.inc hq hX e1 e2⟩
 ·obtain ⟨l1, l2, rfl⟩ := List.append_of_mem hp
  have hn : rdL M.W (posL p.1 2) = fstL l2 := lnk_mid h.fw
  have hi := h.inc
  have hpw := (incr_pw _).1 hi
  rw [List.pairwise_append] at hpw
  have hX2 : X ∈ l2 := by
   rcases List.mem_append.1 hX with hX | hX
   ·have := hpw.2.2 X hX p (List.mem_cons_self ..)
    rw [ahead_asym this] at ha; cases ha
   ·rcases List.mem_cons.1 hX with rfl | hX
    ·rw [ahead_irr] at ha; cases ha
    ·exact hX
  obtain ⟨q, hq, hq1, hqa⟩ := fst_le (l1 := l1 ++ [p]) (by rw [List.append_assoc]; exact hi) hX2
  exact ⟨q, List.mem_append_right _ (List.mem_cons_of_mem _ hq), by rw [hq1]; exact hn.symm, hqa⟩
 ·have hn : rdL M.W (posL head 0) = fstL xs := lnk_fst h.fw
  obtain ⟨q, hq, hq1, hqa⟩ := fst_le (l1 := []) (l2 := xs) h.inc hX
  exact ⟨q, hq, by rw [hq1]; exact hn.symm, hqa⟩
theorem of_inv {w : Wal} {xs0 : List Nd} (hg : WGiven w xs0) : WInv w xs0 (ofG w) xs0 := by
 have hM : (⟨w.M.W, w.M.L, false⟩ : Mem) = w.M := by rw [← hg.F]
 have hR : ∀ s ∈ seeksK w.head w.K, ∃ k ∈ w.K, s = seekK w.head k.1 k.2 := fun s hs => by
  obtain ⟨k, hk, e⟩ := List.mem_map.1 hs
  exact ⟨k, hk, e.symm⟩
 unfold ofG
 rw [hM]
 refine ⟨Nat.zero_le _, rfl, hg.ok.wok, ?_, chain_pinv hg.okM hg.F hg.chain, ?_, ?_, fun X hX => chain_thru hg.chain ?_, start_st hg (g := ⟨w.M, 0, false, zeroEd, zeroSk, seeksK w.head w.K⟩) rfl rfl, fun s hs => ?_, fun X hX s hs a b => ?_, ?_, fun p hp => ⟨0, Nat.le_refl _, by rw [List.take_zero]; exact hp⟩⟩
 ·show ChainL w.M w.head (afterL xs0 (w.J.take 0)); rw [List.take_zero]; exact hg.chain
 ·show xs0.Sublist (xs0 ++ putsOf (w.J.take 0)); exact List.sublist_append_left _ _
 ·show ∀ x ∈ afterL xs0 (w.J.take 0), x ∈ xs0; rw [List.take_zero]; exact fun x hx => hx
 ·have := hX 0 (Nat.le_refl _); rw [List.take_zero] at this; exact this
 ·obtain ⟨k, hk, rfl⟩ := hR s hs
  have hko := hg.ok.kok k hk
  exact ⟨seekK_ok hg.ok.hh hko.1 hko.2, by show (0 : Int) ≤ 0; decide, by show (0 : Int) ≤ 4; decide, fun _ => .inl rfl, fun e' => (by have : (1 : Int) ≤ 0 := e'; omega), fun e' => by cases e'⟩
 ·obtain ⟨k, hk, rfl⟩ := hR s hs
  exact ⟨fun _ => .inl rfl, fun e' => (by have : (1 : Int) ≤ 0 := e'; omega), fun e' => (by have : (0 : Int) = 4 := e'; omega)⟩
 ·show (seeksK w.head w.K).map (fun s => (s.hash, s.key)) = w.K
  unfold seeksK
  rw [List.map_map]
  exact List.map_id'' (fun k => rfl) _
theorem pick_inv {w : Wal} {xs0 : List Nd} (hg : WGiven w xs0) {g : Gst} {pub : List Nd} (h : WInv w xs0 g pub) (n : Int) : ∃ pub', WInv w xs0 (pickG w.J w.head g n) pub' := by
 unfold pickG
 split
 ·obtain ⟨pub', -, h'⟩ := write_inv hg h
  exact ⟨pub', h'⟩
 ·split
  ·split
   ·exact ⟨pub, h⟩
   ·rename_i s hs
    have hsm := List.mem_of_getElem? hs
    have hb := h.rd s hsm
    by_cases h4 : s.ph = 4
    ·have e : sseekP g.M s = (g.M, s, 0) := sseek_eq h.p.ok hb.p0 (by omega) (by unfold seekE; rw [if_pos (by omega)])
     rw [e]
     have hset : g.R.set (n - 1).toNat s = g.R := by
      obtain ⟨hl, he⟩ := List.getElem?_eq_some_iff.1 hs
      rw [← he]; exact List.set_getElem_self hl
     dsimp only
     rw [hset]
     exact ⟨pub, h⟩
    ·obtain ⟨s', hse, hb', hh, hk, -, hX⟩ := rd_step h.p h.wok hb h4
     have hq := sseek_eq h.p.ok hb.p0 (by have := hb.p4; omega) hse
     rw [hq]
     dsimp only
     refine ⟨pub, h.d, h.L, h.wok, h.chain, h.p, h.sub, h.mem, h.thru, h.st, fun x hx => ?_, fun X hXa x hx a b => ?_, ?_, h.was⟩
     ·rcases List.mem_or_eq_of_mem_set hx with hx | rfl
      ·exact h.rd x hx
      ·exact hb'
     ·rcases List.mem_or_eq_of_mem_set hx with hx | rfl
      ·exact h.rdx X hXa x hx a b
      ·rw [hh] at a; rw [hk] at b
       exact hX X (h.thru X hXa) a b (h.rdx X hXa s hsm a b)
     ·rw [← h.rk]
      show (g.R.set (n - 1).toNat s').map (fun s => (s.hash, s.key)) = g.R.map (fun s => (s.hash, s.key))
      rw [List.map_set, hh, hk]
      obtain ⟨hl, he⟩ := List.getElem?_eq_some_iff.1 hs
      have : (s.hash, s.key) = (g.R.map (fun s => (s.hash, s.key)))[(n - 1).toNat]'(by rw [List.length_map]; exact hl) := by rw [List.getElem_map, he]
      rw [this]
      exact List.set_getElem_self _
  ·exact ⟨pub, h⟩
theorem play_inv {w : Wal} {xs0 : List Nd} (hg : WGiven w xs0) (ps : List Int) : ∃ pub, WInv w xs0 (playG w ps) pub := by
 refine snocRec (p := fun ps => ∃ pub, WInv w xs0 (playG w ps) pub) ⟨xs0, of_inv hg⟩ (fun l n ih => ?_) ps
 obtain ⟨pub, h⟩ := ih
 rw [play_snoc]
 exact pick_inv hg h n
/-- Does a row have a node of a hash and a key? -/
def KeyIn (xs : List Nd) (k : Nat × Nat) : Prop := ∃ x ∈ xs, x.2.2.2 = k.1 ∧ x.2.1 = k.2
theorem stepJ_keep {xs : List Nd} {j : Jb} {X : Nd} (hi : incr xs = true) (hX : X ∈ xs) (hk : KeyIn (stepJ xs j) (X.2.2.2, X.2.1)) : X ∈ stepJ xs j := by
 unfold stepJ at hk ⊢
 split at hk
 ·rename_i c
  rw [if_pos c]
  cases hp : xs[posN xs j.2]? with
  | none => rw [List.eraseIdx_of_length_le (by rw [List.getElem?_eq_none_iff] at hp; exact hp)]; exact hX
  | some t =>
   obtain ⟨hl, he⟩ := List.getElem?_eq_some_iff.1 hp
   obtain ⟨l1, l2, e1, e2⟩ : ∃ l1 l2, xs = l1 ++ t :: l2 ∧ l1.length = posN xs j.2 := ⟨xs.take (posN xs j.2), xs.drop (posN xs j.2 + 1), by rw [← he, ← List.drop_eq_getElem_cons hl, List.take_append_drop], by rw [List.length_take]; omega⟩
   have e3 : xs.eraseIdx (posN xs j.2) = l1 ++ l2 := by
    rw [← e2]
    conv => lhs; rw [e1]
    rw [List.eraseIdx_append_of_length_le (Nat.le_refl _), Nat.sub_self]
    rfl
   rw [e3] at hk ⊢
   rw [e1] at hX hi
   rcases List.mem_append.1 hX with h' | h'
   ·exact List.mem_append_left _ h'
   ·rcases List.mem_cons.1 h' with rfl | h'
    ·obtain ⟨x, hx, k1, k2⟩ := hk
     exact absurd ⟨k2, k1⟩ ((incr_rem hi).2 x hx)
    ·exact List.mem_append_right _ h'
 ·rename_i c
  rw [if_neg c]
  split
  ·have := List.take_append_drop (posN xs j.2) xs
   rw [← this] at hX
   rcases List.mem_append.1 hX with h' | h'
   ·exact List.mem_append_left _ h'
   ·exact List.mem_append_right _ (List.mem_cons_of_mem _ h')
  ·exact hX
/-- What the list has all the time is one node. -/
theorem always_of {xs0 : List Nd} {J : List Jb} {d : Nat} {k : Nat × Nat} (hi : incr xs0 = true) (hd : d ≤ J.length) (h : ∀ i, i ≤ d → KeyIn (afterL xs0 (J.take i)) k) : ∃ X, X.2.2.2 = k.1 ∧ X.2.1 = k.2 ∧ Always xs0 J d X := by
 obtain ⟨X, hX, k1, k2⟩ := h 0 (Nat.zero_le _)
 refine ⟨X, k1, k2, fun i => ?_⟩
 induction i with
 | zero => intro _; exact hX
 | succ i ih =>
  intro hid
  have hil : i < J.length := by omega
  obtain ⟨j, hj⟩ : ∃ j, J[i]? = some j := ⟨_, List.getElem?_eq_getElem hil⟩
  have hn := h (i + 1) hid
  rw [take_next hj] at hn ⊢
  exact stepJ_keep (afterL_incr hi _) (ih (by omega)) (by rw [k1, k2]; exact hn)
/-- A reader, behind all picks. -/
theorem finds_law {w : Wal} (h : (wFault w).2 = 0) (ho : WOk w) (ps : List Int) : (playG w ps).R.length = w.K.length ∧ ∀ (i : Nat) (r : Sk), (playG w ps).R[i]? = some r → ∃ k, w.K[i]? = some k ∧ r.ph ≠ 5 ∧
  (r.ph = 4 → (∀ m, m ≤ (playG w ps).done → KeyIn (afterL (wFault w).1 (w.J.take m)) k) → r.found = true) ∧
  (r.found = true → ∃ m x, m ≤ (playG w ps).done ∧ x ∈ afterL (wFault w).1 (w.J.take m) ∧ x.2.2.2 = k.1 ∧ x.2.1 = k.2 ∧ x.2.2.1 = r.val) := by
 obtain ⟨pub, hi⟩ := play_inv (wGiven h ho) ps
 have hs := (wFault_small h).1
 refine ⟨by rw [← hi.rk, List.length_map], fun i r hr => ?_⟩
 have hk : w.K[i]? = some (r.hash, r.key) := by rw [← hi.rk, List.getElem?_map, hr]; rfl
 have hb := hi.rd r (List.mem_of_getElem? hr)
 refine ⟨_, hk, by have := hb.p4; omega, fun h4 ha => ?_, fun hf => ?_⟩
 ·obtain ⟨X, k1, k2, hX⟩ := always_of hs hi.d ha
  exact (hi.rdx X hX r (List.mem_of_getElem? hr) k1 k2).b4 h4
 ·obtain ⟨-, p, hp, e1, e2, e3⟩ := hb.a4 hf
  obtain ⟨m, hm, hpm⟩ := hi.was p hp
  exact ⟨m, p, hm, hpm, e1, e2, e3.symm⟩
end Go.Proofs.YtipohagcppfgiaaGreat
