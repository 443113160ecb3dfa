/- Several texts in one. -/
import Derived.Test.YtahicokokfcieaaGreatDoorProg
import Derived.Test.YtahicokokfcieaaGreatDoorTgAa
import Derived.RangeFuncKeeps
import Derived.RangeFuncLeaves
import Derived.RangeFuncFrom
import Derived.RangeFuncBound
import Derived.OwnWalkIn
import Derived.RangeFuncRecord
import Derived.Test.YtahicokokfcieaaGreatDoorTgAd
namespace Go.Proofs.YtahicokokfcieaaGreatDoor
open Go.RowKit
open Go.Proofs
set_option linter.unusedVariables false
def onesI (n : Int) : Int := 2 ^ n.toNat - 1
def isF (a c : Int) : Bool := decide (0 ≤ a ∧ 1 ≤ c ∧ a ≤ 64 ∧ c ≤ 64 ∧ a + c ≤ 64)
def maskI (a c : Int) : Int := onesI c * 2 ^ a.toNat
theorem pow_mono {a b : Nat} (h : a ≤ b) : (2 : Int) ^ a ≤ 2 ^ b := by exact_mod_cast Nat.pow_le_pow_right (by decide) h
theorem pow_pos (a : Nat) : (1 : Int) ≤ 2 ^ a := by exact_mod_cast Nat.one_le_two_pow
theorem ones_any (n : Int) (w : World) (h0 : 0 ≤ n) (h : n ≤ 64) : Calls Tryz.prog 116 #[.int .i64 n] w (Ret (.int .u64 (onesI n)) w) := by
  by_cases h64 : n = 64
  · subst h64
    go_enter Tryz.func116, Tryz.ntmps116
    go_wp2
    go_ret
    exact ⟨rfl, Below.refl _ _⟩
  · have hlt : n < 64 := by omega
    clear h64
    have e : IntKind.u64.wrap (IntKind.u64.wrap (2 ^ n.toNat) - 1) = onesI n := by
      have h1 := pow_mono (a := n.toNat) (b := 63) (by omega)
      have h2 := pow_pos n.toNat
      unfold onesI
      rw [u64_wrap (n := 2 ^ n.toNat) (by omega) (by omega), u64_wrap (by omega) (by omega)]
    have E := hid e
    clear e
    go_enter Tryz.func116, Tryz.ntmps116
    go_wp2
    go_ret
    refine ⟨?_, Below.refl _ _⟩
    show Ending.returned (.int .u64 (IntKind.u64.wrap (IntKind.u64.wrap (2 ^ n.toNat) - 1))) = _
    rw [E.out]
theorem is_any (a c : Int) (w : World) (ha : -9223372036854775808 ≤ a) (ha' : a ≤ 9223372036854775807) (hc : -9223372036854775808 ≤ c) (hc' : c ≤ 9223372036854775807) :
    Calls Tryz.prog 114 #[.agg #[.int .i64 a, .int .i64 c]] w (Ret (.bool (isF a c)) w) := by
  go_enter Tryz.func114, Tryz.ntmps114
  go_wp2
  all_goals go_ret
  all_goals refine ⟨?_, (Below.refl _ _).alloc (Nat.le_refl _) _⟩
  all_goals (simp [isF, *]; try omega)
theorem maskI_wrap (a c : Int) (h1 : 0 ≤ a) (h2 : a + c ≤ 64) (h3 : 1 ≤ c) : 0 ≤ maskI a c ∧ maskI a c ≤ 18446744073709551615 := by
  unfold maskI onesI
  have e : ((2 : Int) ^ c.toNat - 1) * 2 ^ a.toNat = 2 ^ (c.toNat + a.toNat) - 2 ^ a.toNat := by rw [Int.sub_mul, Int.one_mul, Int.pow_add]
  rw [e]
  have h4 := pow_mono (a := c.toNat + a.toNat) (b := 64) (by omega)
  have h5 := pow_mono (a := a.toNat) (b := c.toNat + a.toNat) (by omega)
  have h6 := pow_pos a.toNat
  omega
theorem mask_any (a c : Int) (w : World) (h0 : 1 ≤ c) (h1 : 0 ≤ a) (h2 : a + c ≤ 64) :
    Calls Tryz.prog 115 #[.agg #[.int .i64 a, .int .i64 c]] w (Ret (.int .u64 (maskI a c)) w) := by
  have E := hid (u64_wrap (maskI_wrap a c h1 h2 h0).1 (maskI_wrap a c h1 h2 h0).2)
  have h3 : a < 64 := by omega
  have h4 : c ≤ 64 := by omega
  go_enter Tryz.func115, Tryz.ntmps115
  go_wp2
  obtain ⟨w1, hw1, hb, hs, hc⟩ := boxed w #[Value.int IntKind.i64 a, Value.int IntKind.i64 c] 208
  have hd := fun x : Ext w1 => hc x.v 0 _ x.b rfl
  have hd1 := fun x : Ext w1 => hc x.v 1 _ x.b rfl
  rw [hw1]; clear hw1 hc
  refine wp_region_ext (by kernel_rfl) (by kernel_rfl) ?_
  repeat (go_big_quiet_step ((go_at_call 116; exact ext_of (ones_any _ _ (by omega) (by omega)))))
  refine wpQuiet_nil ?_
  rintro _ ⟨⟨w2, hb2⟩, rfl⟩
  go_wp2
  go_ret
  refine ⟨?_, step hb hb2⟩
  show Ending.returned (.int .u64 (IntKind.u64.wrap (maskI a c))) = _
  rw [E.out]
abbrev FieldI := Int × Int
def fcells (fs : List FieldI) : List Value := fs.flatMap fun f => [.int .i64 f.1, .int .i64 f.2]
def fok (fs : List FieldI) : Prop := ∀ f ∈ fs, -9223372036854775808 ≤ f.1 ∧ f.1 ≤ 9223372036854775807 ∧ -9223372036854775808 ≤ f.2 ∧ f.2 ≤ 9223372036854775807
def checkGo (t : Int) : List FieldI → Bool
  | [] => true
  | f :: r => isF f.1 f.2 && decide (bits .and .u64 t (maskI f.1 f.2) = 0) && checkGo (bits .or .u64 t (maskI f.1 f.2)) r
def errOf (ok : Bool) (e : Int) : Int := if ok then 0 else e
theorem drop_at {α : Type} (l : List α) (k : Nat) (x : α) (h : l[k]? = some x) : l.drop k = x :: l.drop (k + 1) := by
  obtain ⟨hk, e⟩ := List.getElem?_eq_some_iff.1 h
  rw [List.drop_eq_getElem_cons hk, e]
theorem check_any (fs : List FieldI) (a : Option Addr) (cap : Nat) (w : World) (hl : Leads w a fs.length cap (fcells fs)) (hf : fok fs) (hn : fs.length ≤ 1000) :
    Calls Tryz.prog 92 #[.slice a fs.length cap] w (Ret (.int .i64 (errOf (checkGo 0 fs) 110)) w) := by
  obtain ⟨hc1, hc2, ⟨h1, hcs⟩ | ⟨b, off, rfl, h3, h4⟩⟩ := hl
  · obtain rfl := List.eq_nil_of_length_eq_zero h1
    clear h1 hcs hn hf hc1 hc2
    go_enter Tryz.func92, Tryz.ntmps92
    go_wp2
    go_step3
    go_wp2
    go_step3
    go_wp2
    refine wp_loop_rounds 1 ?_
    rw [rounds_succ]
    go_wp2
    rw [Exit.noGoto_ret]
    go_ret
    exact ⟨rfl, Below.refl _ _⟩
  · obtain ⟨n, en⟩ : ∃ n, n = fs.length := ⟨_, rfl⟩
    rw [← en] at hc1 hn ⊢
    have En := hid en
    have H4 := hid h4
    clear en h4
    go_enter Tryz.func92, Tryz.ntmps92
    go_wp2
    go_step3
    go_wp2
    go_step3
    go_wp2
    go_loopg [3, 4, 10] n (fun g t o i wr => ∃ k tk, g + k = n ∧ i = .int .i64 (k : Nat) ∧ t = .int .u64 tk ∧ o = .bool true ∧ Hid (checkGo 0 fs = checkGo tk (fs.drop k)) ∧ Below w.heap.size w wr)
    case atStart => exact ⟨0, 0, rfl, rfl, rfl, rfl, rfl, Below.refl _ _⟩
    case round =>
      obtain ⟨k, tk, hk, rfl, rfl, rfl, hc, hb⟩ := hrel
      have HK := hid hk
      clear hk
      by_cases hlt : k < n
      · obtain ⟨⟨fa, fc⟩, hfk⟩ : ∃ f, fs[k]? = some f := ⟨_, List.getElem?_eq_getElem (by rw [← En.out]; exact hlt)⟩
        have hfb := hf _ (List.mem_of_getElem? hfk)
        obtain ⟨hf1, hf2, hf3, hf4⟩ := hfb
        dsimp only at hf1 hf2 hf3 hf4
        have hc0 : wr.cell? ⟨b, off + k * 2, none⟩ = some (.int .i64 fa) := (hb.cell (by exact h3)).trans (H4.out (k * 2) _ (flat_at _ 2 (fun _ => rfl) fs k 0 _ hfk (by omega)))
        have hc1 : wr.cell? ⟨b, off + k * 2 + 1, none⟩ = some (.int .i64 fc) := (hb.cell (by exact h3)).trans (H4.out (k * 2 + 1) _ (flat_at _ 2 (fun _ => rfl) fs k 1 _ hfk (by omega)))
        have hcs : checkGo tk (fs.drop k) = (isF fa fc && decide (bits .and .u64 tk (maskI fa fc) = 0) && checkGo (bits .or .u64 tk (maskI fa fc)) (fs.drop (k + 1))) := by rw [drop_at _ _ _ hfk]; rfl
        rw [hcs] at hc
        clear hcs
        have HF := hid hfk
        clear hfk
        obtain ⟨wb, hwb, hbb, hsb, hcb⟩ := boxed wr #[Value.int IntKind.i64 fa, Value.int IntKind.i64 fc] 142
        have hy : Below w.heap.size w wb := step hb hbb
        have hx0 := hcb wb 0 _ (Below.refl _ _) rfl
        have hx1 := hcb wb 1 _ (Below.refl _ _) rfl
        have HC := hid hcb
        clear hcb
        cases hif : isF fa fc with
        | false =>
          go_wp2_with fail
          refine (is_any _ _ _ hf1 hf2 hf3 hf4).mono ?_
          rintro e w1 ⟨rfl, hb1⟩
          go_wp2
          rw [Exit.noGoto_ret]
          go_ret
          exact ⟨by rw [hc.out, hif]; rfl, step hy hb1⟩
        | true => 
          go_wp2_with fail
          refine (is_any _ _ _ hf1 hf2 hf3 hf4).mono ?_
          rintro e w1 ⟨rfl, hb1⟩
          have hd0 := HC.out w1 0 _ hb1 rfl
          have hd1 := HC.out w1 1 _ hb1 rfl
          have hf5 : 0 ≤ fa ∧ 1 ≤ fc ∧ fa ≤ 64 ∧ fc ≤ 64 ∧ fa + fc ≤ 64 := by simpa [isF] using hif
          go_wp2_with fail
          refine (mask_any _ _ _ hf5.2.1 hf5.1 hf5.2.2.2.2).mono ?_
          rintro e w2 ⟨rfl, hb2⟩
          by_cases hz : bits BinOp.and IntKind.u64 tk (maskI fa fc) = 0
          · go_wp2_with fail
            refine (mask_any _ _ _ hf5.2.1 hf5.1 hf5.2.2.2.2).mono ?_
            rintro e w3 ⟨rfl, hb3⟩
            go_wp2
            go_roundg (gk - 1)
            case measure => have := HK.out; omega
            case rel => exact ⟨k + 1, _, by have := HK.out; omega, by go_num, rfl, rfl, hid (by rw [hc.out, hif]; simp [hz]), step (step (step hy hb1) hb2) hb3⟩
          · have hz' : (bits BinOp.and IntKind.u64 tk (maskI fa fc) == 0) = false := by simpa using hz
            have HZ := hid hz
            clear hz
            go_wp2
            rw [Exit.noGoto_ret]
            go_ret
            exact ⟨by rw [hc.out, hif]; simp [HZ.out, errOf], step (step hy hb1) hb2⟩
      · have e2 : k = n := by have := HK.out; omega
        subst e2
        have hc' : checkGo 0 fs = true := by rw [hc.out, List.drop_of_length_le (by rw [← En.out]; exact Nat.le_refl _)]; rfl
        clear hc HK hlt
        go_wp2
        rw [Exit.noGoto_ret]
        go_ret
        exact ⟨by rw [hc']; rfl, hb⟩
end Go.Proofs.YtahicokokfcieaaGreatDoor
namespace Go.Proofs.YtahicokokfcieaaGreatDoor
open Go.RowKit
set_option linter.unusedVariables false
/-- The word of an iterator whose own turns of the world are T: of the caller's invariant it asks that it abides T. -/
def SeqT {α : Type} (T : World → World → Prop) (F : Fence) (n : Nat) (P : Program) (g : Nat) (lb : Array Value) (encs : α → Array Value) (Kp : World → World → Prop) (S Sp : List α → Prop) (N : Nat) (R : World → Prop) : Prop :=
  ∀ (l : Nat) (J Jx : List α → World → Prop) (W : World), R W → (∀ s A B, J s A → T A B → J s B) → (∀ s A B, Jx s A → T A B → Jx s B) →
    (∀ pre x W1, J pre W1 → pre.length < N → YieldAt F (n - 1) P l (encs x) W1 fun e W' =>
      (e = .returned (.bool true) ∧ J (pre ++ [x]) W' ∧ Kp W1 W') ∨ (e = .returned (.bool false) ∧ Jx (pre ++ [x]) W')) →
    J [] W →
    CallsIn F n P g (#[.func (.yield l) #[] #[]] ++ lb) W fun e W' => (∃ v, e = .returned v) ∧ ((∃ xs, S xs ∧ J xs W') ∨ (∃ pre, Sp pre ∧ Jx pre W'))
section
variable {F : Fence} {n : Nat} {P : Program}
/-- What the caller owes: an invariant I on its own cells (it abides the iterator's turns, and those of the loop's own two blocks), and a walk of its body. -/
theorem wpIn_range_T {α : Type} {T : World → World → Prop} {g : Operand} {ps : Array Tmp} {assign body : Code} {Q : Exit → Act → World → Prop} {a : Act} {w : World}
    (hro : F.round = none) (h1 : 1 ≤ n) {gf : Nat} {lb : Array Value} (hg : a.eval g = .func (.func gf) #[] lb) (hFg : F.fn gf) (eg : ∀ args w, (callFunc gf args).run P w = .ok (.enter gf args) w)
    {encs : α → Array Value} {Kp : World → World → Prop} {S Sp : List α → Prop} {N : Nat} {R : World → Prop} (hseq : SeqT T F (n - 1) P gf lb encs Kp S Sp N R)
    (hKt : ∀ {A B C : World}, Kp A B → Kp B C → Kp A C) (hKb : ∀ (W : World) (l : Nat) (o o' : Obj), w.heap.size ≤ l → W.heap[l]? = some o → o.isCells = false → o.isWalk = false → Kp W (W.putObj l o'))
    (hR : ∀ o o' : Obj, R ((w.alloc o).alloc o')) (hps : ∀ x, (encs x).size = ps.size)
    (hT : ∀ A B (b : Nat) (o : Obj), T A B → w.heap.size ≤ b → b < w.heap.size + 2 → A.heap[b]? = some o → B.heap[b]? = some o)
    (I : List α → World → Prop) (Ix : Code → List α → World → Prop) (hI : OwnFrom w.heap.size I) (hIx : ∀ c, OwnFrom w.heap.size (Ix c)) (hIT : ∀ s A B, I s A → T A B → I s B) (hIxT : ∀ c s A B, Ix c s A → T A B → Ix c s B) (h0 : I [] w) (a₁ : α → Act)
    (hassign : ∀ (l : Nat) (x : α) (W : World) (K : Act → World → Prop), K (a₁ x) W →
      assign.wpIn (F.inRound l) (n - 1 - 1) P (Exit.then K (fun _ _ _ => False)) { tmps := (ps.zip (encs x)).foldl (fun t (p, v) => t.setIfInBounds p v) a.tmps, defers := [] } W)
    (hbody : ∀ (l : Nat) (pre : List α) (x : α) (W : World), I pre W → pre.length < N → body.wpIn (F.inRound l) (n - 1 - 1) P (ownPostK Kp I Ix (pre ++ [x]) W) (a₁ x) W)
    (hdone : ∀ (D : Nat) (xs : List α) (W : World), w.heap.size ≤ D → S xs → I xs W → W.heap[D]? = some (.deferred (some [])) → Q .normal { a with defers := { target := .collected D, args := #[] } :: a.defers } W)
    (hstop : ∀ (D : Nat) (c : Code) (pre : List α) (W : World), w.heap.size ≤ D → Sp pre → Ix c pre W → W.heap[D]? = some (.deferred (some [])) → c.wpIn F n P Q { a with defers := { target := .collected D, args := #[] } :: a.defers } W) :
    (Code.rangeFunc g ps assign body).wpIn F n P Q a w := by
  obtain ⟨D, hD⟩ : ∃ D, w.heap.size = D := ⟨_, rfl⟩
  refine wpIn_rangeFunc fun fn hfn => ?_
  rw [hro]
  obtain ⟨rec, hrec⟩ : ∃ rec : LoopState → Option Code → Loop, ∀ s c, rec s c = { state := s, pending := c, fn, tmps := a.tmps, params := ps, assign, body, defers := D } := ⟨_, fun _ _ => rfl⟩
  -- the loop's record lies in block D + 1, the rounds' deferred calls in block D
  have two : ∃ W1, (w.alloc (.deferred (some []))).alloc (.loop (rec .ready none)) = W1 ∧ W1.heap[D]? = some (.deferred (some [])) ∧ W1.heap[D + 1]? = some (.loop (rec .ready none)) ∧ I [] W1 ∧ R W1 := by
    refine ⟨_, rfl, ?_, ?_, hI.alloc _ (hI.alloc _ h0), hR _ _⟩
    · rw [← hD]; exact (Below.heap_alloc _ _ _ (by simp)).trans (World.alloc_heap_new w _)
    · have := World.alloc_heap_new (w.alloc (.deferred (some []))) (.loop (rec .ready none))
      rwa [World.size_alloc, hD] at this
  obtain ⟨W1, hW1, kD, kL, i1, r1⟩ := two
  refine ⟨D + 1, [{ target := .collected D, args := #[] }], W1, { target := .fn (.func gf) lb, args := #[.func (.yield (D + 1)) #[] #[]] }, W1, gf, #[.func (.yield (D + 1)) #[] #[]] ++ lb, W1, ?_, ?_, ?_, ?_, fun _ => h1, ?_⟩
  · rw [← hW1, hrec, ← hD]; exact run_enterLoop_outer _ _ _ _ _
  · simp only [resolve, hg]; simp [go_sem]
  · intro f' hf'; simp [Target.leads] at hf'; subst hf'; exact hFg
  · simp [invoke, go_sem, eg]
  let J : List α → World → Prop := fun pre W => I pre W ∧ W.heap[D]? = some (.deferred (some [])) ∧ W.heap[D + 1]? = some (.loop (rec .ready none))
  let Jx : List α → World → Prop := fun pre W => ∃ c, Ix c pre W ∧ W.heap[D]? = some (.deferred (some [])) ∧ W.heap[D + 1]? = some (.loop (rec .done (some c)))
  have yields : ∀ pre x W, J pre W → pre.length < N → YieldAt F (n - 1 - 1) P (D + 1) (encs x) W fun e W' =>
      (e = .returned (.bool true) ∧ J (pre ++ [x]) W' ∧ Kp W W') ∨ (e = .returned (.bool false) ∧ Jx (pre ++ [x]) W') := by
    rintro pre x W ⟨hi, kD, kL⟩ hlen
    have hlt : D + 1 < W.heap.size := (Array.getElem?_eq_some_iff.1 kL).1
    have hy := run_yield (P := P) (args := encs x) kL (by rw [hrec]; exact hps x)
    rw [hrec] at hy
    obtain ⟨busy, hbusy⟩ : ∃ b : Loop, b = { rec .ready none with state := .busy } := ⟨_, rfl⟩
    have bL : (W.putObj (D + 1) (.loop busy)).heap[D + 1]? = some (.loop busy) := World.putObj_heap_same hlt
    have bD : (W.putObj (D + 1) (.loop busy)).heap[D]? = some (.deferred (some [])) := (World.putObj_heap_other (by omega)).trans kD
    have bK : Kp W (W.putObj (D + 1) (.loop busy)) := hKb _ _ _ _ (by omega) kL rfl rfl
    have bI : I pre (W.putObj (D + 1) (.loop busy)) := hI.putObj _ hi (by omega) kL rfl
    refine ⟨fn, _, assign, body, hy, roundIn_of_wpIn hfn (hassign _ x W _ ⟨_, run_beginRound kL (by rw [hrec]), ?_⟩)⟩
    rw [← hbusy]
    -- how a round ends: the record is ready again, or done, with the jump that is still to be made
    have ends : ∀ (c : Option Code) (V : World), KeepsOthers (W.putObj (D + 1) (.loop busy)) V → ∃ V', V.putObj (D + 1) (.loop (rec (if c.isNone then .ready else .done) c)) = V' ∧
        (Instr.endRound (D + 1) c).run P V = .ok (.bool c.isNone) V' ∧ V.heap[D + 1]? = some (.loop busy) ∧ V'.heap[D]? = some (.deferred (some [])) ∧ V'.heap[D + 1]? = some (.loop (rec (if c.isNone then .ready else .done) c)) := by
      intro c V hV
      have vL := hV.same _ _ bL rfl
      have vD := hV.same _ _ bD rfl
      have run := run_endRound (P := P) c vL
      have e : ({ busy with state := (if c.isNone then .ready else .done), pending := c } : Loop) = rec (if c.isNone then .ready else .done) c := by rw [hbusy, hrec, hrec]
      rw [e] at run
      exact ⟨_, rfl, run, vL, (World.putObj_heap_other (by omega)).trans vD, World.putObj_heap_same (Array.getElem?_eq_some_iff.1 vL).1⟩
    have leave : ∀ (c : Code) (V : World), KeepsOthers (W.putObj (D + 1) (.loop busy)) V → Ix c (pre ++ [x]) V → ∃ b V', (Instr.endRound (D + 1) (some c)).run P V = .ok b V' ∧ b = .bool false ∧ Jx (pre ++ [x]) V' := by
      intro c V hV hi'
      obtain ⟨V', rfl, run, vL, vD, vL'⟩ := ends (some c) V hV
      exact ⟨_, _, run, rfl, c, (hIx c).putObj _ hi' (by omega) vL rfl, vD, vL'⟩
    refine wpIn_mono (hbody _ pre x _ bI hlen) ?_
    rintro e a3 V hp
    cases e with
    | normal =>
      obtain ⟨hk, hkp, hi'⟩ := hp
      obtain ⟨V', rfl, run, vL, vD, vL'⟩ := ends none V hk
      exact ⟨_, _, run, .inl ⟨rfl, ⟨hI.putObj _ hi' (by omega) vL rfl, vD, vL'⟩, hKt (hKt bK hkp) (hKb _ _ _ _ (by omega) vL rfl rfl)⟩⟩
    | ret => obtain ⟨b, V', run, rfl, h⟩ := leave .ret V hp.1 hp.2; exact ⟨_, _, run, .inr ⟨rfl, h⟩⟩
    | exit id => obtain ⟨b, V', run, rfl, h⟩ := leave (.exit id) V hp.1 hp.2; exact ⟨_, _, run, .inr ⟨rfl, h⟩⟩
    | goto t => obtain ⟨b, V', run, rfl, h⟩ := leave (.goto t) V hp.1 hp.2; exact ⟨_, _, run, .inr ⟨rfl, h⟩⟩
    | panic ch => exact hp.elim
    | outgrown => exact hp.elim
  refine (hseq (D + 1) J Jx W1 r1 (fun s A B h t => ⟨hIT s A B h.1 t, hT A B D _ t (by omega) (by omega) h.2.1, hT A B (D + 1) _ t (by omega) (by omega) h.2.2⟩)
    (fun s A B h t => by obtain ⟨c, h1, h2, h3⟩ := h; exact ⟨c, hIxT c s A B h1 t, hT A B D _ t (by omega) (by omega) h2, hT A B (D + 1) _ t (by omega) (by omega) h3⟩) yields ⟨i1, kD, kL⟩).mono ?_
  rintro e V ⟨⟨v, rfl⟩, (⟨xs, hS, hi, vD, vL⟩ | ⟨pre, hSp, c, hi, vD, vL⟩)⟩
  · have run := run_endLoop (P := P) vL (by rw [hrec]; simp)
    rw [hrec] at run
    exact ⟨none, _, run, hdone D xs _ (by omega) hS (hI.putObj _ hi (by omega) vL rfl) ((World.putObj_heap_other (by omega)).trans vD)⟩
  · have run := run_endLoop (P := P) vL (by rw [hrec]; simp)
    rw [hrec] at run
    exact ⟨some c, _, run, hstop D c pre _ (by omega) hSp ((hIx c).putObj _ hi (by omega) vL rfl) ((World.putObj_heap_other (by omega)).trans vD)⟩
end
/-- An iterator's turn of the world between two rounds: its own variable's block Bs, or a block beyond s0 that is no cells; new blocks. -/
def Turn (Bs s0 : Nat) (A B : World) : Prop := ∃ row, A.grownBy B row ∧ ∀ r, row = some r → r = Bs ∨ (s0 ≤ r ∧ ∃ o, A.heap[r]? = some o ∧ o.isCells = false)
/-- What a round keeps for the iterator. -/
def Keeps (kept : Nat → Prop) (A B : World) : Prop := ∀ k, kept k → B.heap[k]? = A.heap[k]?
/-- An invariant of the caller's abides the iterator's turns. -/
def Abides {β : Type} (B0 Bs : Nat) (I : β → World → Prop) : Prop := ∀ s A B row, I s A → A.grownBy B row → (∀ r, row = some r → r = Bs ∨ (B0 ≤ r ∧ ∃ o, A.heap[r]? = some o ∧ o.isCells = false)) → I s B
theorem grownBy_setCell (A : World) (b i : Nat) (v : Value) : A.grownBy (A.setCell ⟨b, i, none⟩ v) (some b) :=
  ⟨rfl, rfl, rfl, by simp [World.setCell], fun k _ hk => Below.heap_setCell _ _ _ _ (fun e => hk (by rw [e]))⟩
theorem Turn.set (Bs s0 i : Nat) (A : World) (v : Value) : Turn Bs s0 A (A.setCell ⟨Bs, i, none⟩ v) := ⟨_, grownBy_setCell A Bs i v, fun r e => by cases e; exact .inl rfl⟩
theorem grownBy_of_below {A B : World} (h : Below A.heap.size A B) : A.grownBy B none := ⟨h.os, h.tape, h.output, h.size, fun k hk _ => h.block k hk⟩
theorem Turn.grow {Bs s0 : Nat} {A B : World} (h : Below A.heap.size A B) : Turn Bs s0 A B := ⟨none, grownBy_of_below h, fun r e => by cases e⟩
theorem keepsOthers_of_below {A B : World} (h : Below A.heap.size A B) : KeepsOthers A B :=
  ⟨h.size, fun k o hk _ => (h.block k (Array.getElem?_eq_some_iff.1 hk).1).trans hk⟩
/-- A function with such a loop, entered. -/
theorem calls_of_wp_marks {P : Program} {f : FuncId} {fn : Func} {c : Code} {args : Array Value} {w : World} {R : Ending → World → Prop} (hf : P.funcs[f]? = some fn) (hb : fn.body = some c)
    (h : c.wp P (bodyPostM Fence.wide 5 P fn R) { tmps := args ++ Array.replicate (fn.ntmps - args.size) undef, defers := [] } w) : Calls P f args w R :=
  (callsIn_wide (n := 5)).1 (callsIn_of_wp_marks hf hb trivial (wpIn_wide.2 h))
theorem leaves_mark {P : Program} {fn : Func} {tmps : Array Value} {R : Ending → World → Prop} {D : Nat} {W : World} {v : Value} (hK : W.heap[D]? = some (.deferred (some [])))
    (hr : (results fn tmps).run P (W.putObj D (.deferred none)) = .ok v (W.putObj D (.deferred none))) (hR : R (.returned v) (W.putObj D (.deferred none))) :
    LeavesInM Fence.wide 5 P fn tmps R [{ target := .collected D, args := #[] }] .returning W :=
  ⟨by simp, .inl ⟨D, _, rfl, run_takeDeferred hK, v, hr, hR⟩⟩
theorem leaves_none {P : Program} {fn : Func} {tmps : Array Value} {R : Ending → World → Prop} {W : World} {v : Value}
    (hr : (results fn tmps).run P W = .ok v W) (hR : R (.returned v) W) : LeavesInM Fence.wide 5 P fn tmps R [] .returning W := ⟨v, hr, hR⟩
theorem below_mark {w W : World} {D : Nat} (hb : Below w.heap.size w W) (hD : w.heap.size ≤ D) (hK : W.heap[D]? = some (.deferred (some []))) : Below w.heap.size w (W.putObj D (.deferred none)) :=
  hb.trans (belowK_b (Nat.le_refl _) W D _ _ hD hK rfl rfl)
theorem mark_other {W : World} {D b : Nat} {cs : Array Value} {T : TypeId} {m : Nat × Nat} (hb : W.heap[b]? = some (.cells cs T m)) (hK : W.heap[D]? = some (.deferred (some []))) (o : Obj) : (W.putObj D o).heap[b]? = some (.cells cs T m) := by
  refine (World.putObj_heap_other ?_).trans hb
  intro e
  subst e
  rw [hb] at hK
  cases hK
theorem own_base {W : World} {base base' n size : Nat} {e : TypeId} {v : Value} {xs : List Value} (h : W.ownsRow base e size v n xs) (hb : base' ≤ base) : W.ownsRow base' e size v n xs := by
  refine ⟨h.1, ?_⟩
  rcases h.2 with hn | ⟨g, cap, cur, hv, hg, rest⟩
  · exact .inl hn
  · exact .inr ⟨g, cap, cur, hv, by omega, rest⟩
theorem own_mark {W : World} {D base n size : Nat} {e : TypeId} {v : Value} {xs : List Value} (h : W.ownsRow base e size v n xs) (hK : W.heap[D]? = some (.deferred (some []))) (o : Obj) : (W.putObj D o).ownsRow base e size v n xs := by
  refine ⟨h.1, ?_⟩
  rcases h.2 with hn | ⟨g, cap, cur, rfl, hb, hgg, rest⟩
  · exact .inl hn
  · exact .inr ⟨g, cap, cur, rfl, hb, mark_other hgg hK o, rest⟩
/-- What the turns of an iterator leave. -/
theorem cells_abide {A B : World} {row : Option Nat} {b Bs B0 : Nat} {cs : Array Value} {T : TypeId} {m : Nat × Nat} (h : A.heap[b]? = some (.cells cs T m)) (hg : A.grownBy B row)
    (hr : ∀ r, row = some r → r = Bs ∨ (B0 ≤ r ∧ ∃ o, A.heap[r]? = some o ∧ o.isCells = false)) (hne : b ≠ Bs) : B.heap[b]? = some (.cells cs T m) := by
  refine (hg.block b (Array.getElem?_eq_some_iff.1 h).1 fun e => ?_).trans h
  rcases hr b e.symm with h1 | ⟨_, o, h2, h3⟩
  · exact hne h1
  · rw [h] at h2; cases h2; cases h3
theorem own_abide {A B : World} {row : Option Nat} {Bs B0 base n size : Nat} {e : TypeId} {v : Value} {xs : List Value} (h : A.ownsRow base e size v n xs) (hg : A.grownBy B row)
    (hr : ∀ r, row = some r → r = Bs ∨ (B0 ≤ r ∧ ∃ o, A.heap[r]? = some o ∧ o.isCells = false)) (hne : Bs < base) : B.ownsRow base e size v n xs := by
  refine ⟨h.1, ?_⟩
  rcases h.2 with hn | ⟨g, cap, cur, rfl, hb, hgg, rest⟩
  · exact .inl hn
  · exact .inr ⟨g, cap, cur, rfl, hb, cells_abide hgg hg hr (by omega), rest⟩
theorem below_abide {w A B : World} {row : Option Nat} {Bs B0 : Nat} (h : Below w.heap.size w A) (hg : A.grownBy B row)
    (hr : ∀ r, row = some r → r = Bs ∨ (B0 ≤ r ∧ ∃ o, A.heap[r]? = some o ∧ o.isCells = false)) (h1 : w.heap.size ≤ Bs) (h2 : w.heap.size ≤ B0) : Below w.heap.size w B :=
  h.grown hg h.size fun k e => by rcases hr k e with h | ⟨h, _⟩ <;> omega
/-- One element is appended to a slice that is the call's own, in a round. -/
theorem wpIn_append1 {F : Fence} {nF : Nat} {P : Program} {w : World} {ops : Array Oper} {rest : List Oper} {o : Oper} {a : Act} {Q : Exit → Act → World → Prop} {t e : TypeId} {size bytes : Nat} (I : Elem P t e size bytes) (hgd : o.guard = none) (s x : Operand)
    (ho : o.op = .call { callee := .builtin .append, args := #[s, x], argTypes := #[t, t] })
    (base : Nat) (v : Value) (n : Nat) (xs : List Value) (hs : a.eval s = v) (hown : w.ownsRow base e size v n xs)
    (B : Nat) (news : List Value) (hx : a.eval x = .slice (some ⟨B, 0, none⟩) 1 1) (hl : news.length = size) (hnews : ∀ (j : Nat) u, news[j]? = some u → w.cell? ⟨B, j, none⟩ = some u) (h1 : ∀ u ∈ news, u.oneCell' = true)
    (hn : n ≤ 1000000) (hbase : base ≤ w.heap.size)
    (h : ∀ v' w', w'.ownsRow base e size v' (n + 1) (xs ++ news) → Below base w w' → w.grownBy w' v.ownBlock → wpListIn F nF P ops Q rest (a.put o.dst v') w') : wpListIn F nF P ops Q (o :: rest) a w := by
  obtain ⟨i, z, hi, hz, h2, h3, h4⟩ := I.info
  refine wpListIn_append_own w hgd s x t ho base e i z size bytes I.under hi hz h2 h3 h4 I.pos v n xs hs hown ⟨B, 0, none⟩ 1 1 news hx (by omega) ?_ h1 (by unfold maxLen; omega) ?_ hbase ?_
  · intro j u hj
    have := hnews j u hj
    rcases j with _ | j
    · simpa [Addr.add] using this
    · simpa [Addr.add] using this
  · have := Nat.mul_le_mul (Nat.add_le_add_right hn 1) I.small
    omega
  · intro v' w' hown' hg _
    exact h v' w' hown' (own_below hown hg hbase) hg
end Go.Proofs.YtahicokokfcieaaGreatDoor
namespace Go.Proofs.YtahicokokfcieaaGreatDoor
open Go.RowKit
set_option linter.unusedVariables false
/-- What a round keeps for an iterator that makes maps of its own. -/
def KeepsM (kept : Nat → Prop) (s0 : Nat) (A B : World) : Prop := Keeps kept A B ∧ ∀ (k : Nat) (o : Obj), s0 ≤ k → A.heap[k]? = some o → o.isCells = false → B.heap[k]? = some o
/-- The word of an iterator that may panic. -/
def SeqQ {α : Type} (T : World → World → Prop) (F : Fence) (n : Nat) (P : Program) (g : Nat) (lb : Array Value) (encs : α → Array Value) (Kp : World → World → Prop) (S Sp : List α → Prop) (Sx : List α → List PanicEntry → Prop) (N : Nat) (R : World → Prop) : Prop :=
  ∀ (l : Nat) (J Jx : List α → World → Prop) (W : World), R W → (∀ s A B, J s A → T A B → J s B) → (∀ s A B, Jx s A → T A B → Jx s B) →
    (∀ pre x W1, J pre W1 → pre.length < N → YieldAt F (n - 1) P l (encs x) W1 fun e W' =>
      (e = .returned (.bool true) ∧ J (pre ++ [x]) W' ∧ Kp W1 W') ∨ (e = .returned (.bool false) ∧ Jx (pre ++ [x]) W')) →
    J [] W →
    CallsIn F n P g (#[.func (.yield l) #[] #[]] ++ lb) W fun e W' => ((∃ v, e = .returned v) ∧ ((∃ xs, S xs ∧ J xs W') ∨ (∃ pre, Sp pre ∧ Jx pre W'))) ∨ (∃ c pre, e = .panicked c ∧ Sx pre c ∧ J pre W')
section
variable {F : Fence} {n : Nat} {P : Program}
/-- As wpIn_range_T; the code that gives the loop's variables may make memory: Ax says what it leaves. -/
theorem wpIn_range_Q {α : Type} {T : World → World → Prop} {g : Operand} {ps : Array Tmp} {assign body : Code} {Q : Exit → Act → World → Prop} {a : Act} {w : World}
    (hro : F.round = none) (h1 : 1 ≤ n) {gf : Nat} {lb : Array Value} (hg : a.eval g = .func (.func gf) #[] lb) (hFg : F.fn gf) (eg : ∀ args w, (callFunc gf args).run P w = .ok (.enter gf args) w)
    {encs : α → Array Value} {Kp : World → World → Prop} {S Sp : List α → Prop} {Sx : List α → List PanicEntry → Prop} {N : Nat} {R : World → Prop} (hseq : SeqQ T F (n - 1) P gf lb encs Kp S Sp Sx N R)
    (hKt : ∀ {A B C : World}, Kp A B → Kp B C → Kp A C) (hKb : ∀ (W : World) (l : Nat) (o o' : Obj), l = w.heap.size + 1 → W.heap[l]? = some o → o.isCells = false → o.isWalk = false → Kp W (W.putObj l o'))
    (hR : ∀ o o' : Obj, R ((w.alloc o).alloc o')) (hps : ∀ x, (encs x).size = ps.size)
    (hT : ∀ A B (b : Nat) (o : Obj), T A B → w.heap.size ≤ b → b < w.heap.size + 2 → A.heap[b]? = some o → B.heap[b]? = some o)
    (I : List α → World → Prop) (Ix : Code → List α → World → Prop) (hI : OwnFrom w.heap.size I) (hIx : ∀ c, OwnFrom w.heap.size (Ix c)) (hIT : ∀ s A B, I s A → T A B → I s B) (hIxT : ∀ c s A B, Ix c s A → T A B → Ix c s B) (h0 : I [] w) (Ax : List α → α → Act → World → Prop) (hAx : ∀ pre x a', OwnFrom w.heap.size (fun (_ : Unit) W => Ax pre x a' W)) (hKa : ∀ (W V : World), w.heap.size ≤ W.heap.size → Below W.heap.size W V → Kp W V)
    (hassign : ∀ (l : Nat) (pre : List α) (x : α) (W : World) (K : Act → World → Prop), I pre W → pre.length < N → (∀ a' W', Below W.heap.size W W' → Ax pre x a' W' → K a' W') →
      assign.wpIn (F.inRound l) (n - 1 - 1) P (Exit.then K (fun _ _ _ => False)) { tmps := (ps.zip (encs x)).foldl (fun t (p, v) => t.setIfInBounds p v) a.tmps, defers := [] } W)
    (hbody : ∀ (l : Nat) (pre : List α) (x : α) (a' : Act) (W : World), Ax pre x a' W → pre.length < N → body.wpIn (F.inRound l) (n - 1 - 1) P (ownPostK Kp I Ix (pre ++ [x]) W) a' W)
    (hdone : ∀ (D : Nat) (xs : List α) (W : World), w.heap.size ≤ D → S xs → I xs W → W.heap[D]? = some (.deferred (some [])) → Q .normal { a with defers := { target := .collected D, args := #[] } :: a.defers } W)
    (hstop : ∀ (D : Nat) (c : Code) (pre : List α) (W : World), w.heap.size ≤ D → Sp pre → Ix c pre W → W.heap[D]? = some (.deferred (some [])) → c.wpIn F n P Q { a with defers := { target := .collected D, args := #[] } :: a.defers } W)
    (hpanic : ∀ (D : Nat) (c : List PanicEntry) (pre : List α) (W : World), w.heap.size ≤ D → Sx pre c → I pre W → W.heap[D]? = some (.deferred (some [])) → Q (.panic c) { a with defers := { target := .collected D, args := #[] } :: a.defers } W) :
    (Code.rangeFunc g ps assign body).wpIn F n P Q a w := by
  obtain ⟨D, hD⟩ : ∃ D, w.heap.size = D := ⟨_, rfl⟩
  refine wpIn_rangeFunc fun fn hfn => ?_
  rw [hro]
  obtain ⟨rec, hrec⟩ : ∃ rec : LoopState → Option Code → Loop, ∀ s c, rec s c = { state := s, pending := c, fn, tmps := a.tmps, params := ps, assign, body, defers := D } := ⟨_, fun _ _ => rfl⟩
  -- the loop's record lies in block D + 1, the rounds' deferred calls in block D
  have two : ∃ W1, (w.alloc (.deferred (some []))).alloc (.loop (rec .ready none)) = W1 ∧ W1.heap[D]? = some (.deferred (some [])) ∧ W1.heap[D + 1]? = some (.loop (rec .ready none)) ∧ I [] W1 ∧ R W1 := by
    refine ⟨_, rfl, ?_, ?_, hI.alloc _ (hI.alloc _ h0), hR _ _⟩
    · rw [← hD]; exact (Below.heap_alloc _ _ _ (by simp)).trans (World.alloc_heap_new w _)
    · have := World.alloc_heap_new (w.alloc (.deferred (some []))) (.loop (rec .ready none))
      rwa [World.size_alloc, hD] at this
  obtain ⟨W1, hW1, kD, kL, i1, r1⟩ := two
  refine ⟨D + 1, [{ target := .collected D, args := #[] }], W1, { target := .fn (.func gf) lb, args := #[.func (.yield (D + 1)) #[] #[]] }, W1, gf, #[.func (.yield (D + 1)) #[] #[]] ++ lb, W1, ?_, ?_, ?_, ?_, fun _ => h1, ?_⟩
  · rw [← hW1, hrec, ← hD]; exact run_enterLoop_outer _ _ _ _ _
  · simp only [resolve, hg]; simp [go_sem]
  · intro f' hf'; simp [Target.leads] at hf'; subst hf'; exact hFg
  · simp [invoke, go_sem, eg]
  let J : List α → World → Prop := fun pre W => I pre W ∧ W.heap[D]? = some (.deferred (some [])) ∧ W.heap[D + 1]? = some (.loop (rec .ready none))
  let Jx : List α → World → Prop := fun pre W => ∃ c, Ix c pre W ∧ W.heap[D]? = some (.deferred (some [])) ∧ W.heap[D + 1]? = some (.loop (rec .done (some c)))
  have yields : ∀ pre x W, J pre W → pre.length < N → YieldAt F (n - 1 - 1) P (D + 1) (encs x) W fun e W' =>
      (e = .returned (.bool true) ∧ J (pre ++ [x]) W' ∧ Kp W W') ∨ (e = .returned (.bool false) ∧ Jx (pre ++ [x]) W') := by
    rintro pre x W ⟨hi, kD, kL⟩ hlen
    have hlt : D + 1 < W.heap.size := (Array.getElem?_eq_some_iff.1 kL).1
    have hy := run_yield (P := P) (args := encs x) kL (by rw [hrec]; exact hps x)
    rw [hrec] at hy
    obtain ⟨busy, hbusy⟩ : ∃ b : Loop, b = { rec .ready none with state := .busy } := ⟨_, rfl⟩
    refine ⟨fn, _, assign, body, hy, roundIn_of_wpIn hfn (hassign _ pre x W _ hi hlen ?_)⟩
    intro a1 W2 hbel hAx2
    have kD : W2.heap[D]? = some (.deferred (some [])) := (hbel.block _ (by omega)).trans kD
    have kL : W2.heap[D + 1]? = some (.loop (rec .ready none)) := (hbel.block _ hlt).trans kL
    have bK0 : Kp W W2 := hKa _ _ (by omega) hbel
    have hlt : D + 1 < W2.heap.size := (Array.getElem?_eq_some_iff.1 kL).1
    have bL : (W2.putObj (D + 1) (.loop busy)).heap[D + 1]? = some (.loop busy) := World.putObj_heap_same hlt
    have bD : (W2.putObj (D + 1) (.loop busy)).heap[D]? = some (.deferred (some [])) := (World.putObj_heap_other (by omega)).trans kD
    have bK : Kp W (W2.putObj (D + 1) (.loop busy)) := hKt bK0 (hKb _ _ _ _ (by omega) kL rfl rfl)
    have bI : Ax pre x a1 (W2.putObj (D + 1) (.loop busy)) := (hAx pre x a1).putObj (s := ()) _ hAx2 (by omega) kL rfl
    refine ⟨_, run_beginRound kL (by rw [hrec]), ?_⟩
    rw [← hbusy]
    -- how a round ends: the record is ready again, or done, with the jump that is still to be made
    have ends : ∀ (c : Option Code) (V : World), KeepsOthers (W2.putObj (D + 1) (.loop busy)) V → ∃ V', V.putObj (D + 1) (.loop (rec (if c.isNone then .ready else .done) c)) = V' ∧
        (Instr.endRound (D + 1) c).run P V = .ok (.bool c.isNone) V' ∧ V.heap[D + 1]? = some (.loop busy) ∧ V'.heap[D]? = some (.deferred (some [])) ∧ V'.heap[D + 1]? = some (.loop (rec (if c.isNone then .ready else .done) c)) := by
      intro c V hV
      have vL := hV.same _ _ bL rfl
      have vD := hV.same _ _ bD rfl
      have run := run_endRound (P := P) c vL
      have e : ({ busy with state := (if c.isNone then .ready else .done), pending := c } : Loop) = rec (if c.isNone then .ready else .done) c := by rw [hbusy, hrec, hrec]
      rw [e] at run
      exact ⟨_, rfl, run, vL, (World.putObj_heap_other (by omega)).trans vD, World.putObj_heap_same (Array.getElem?_eq_some_iff.1 vL).1⟩
    have leave : ∀ (c : Code) (V : World), KeepsOthers (W2.putObj (D + 1) (.loop busy)) V → Ix c (pre ++ [x]) V → ∃ b V', (Instr.endRound (D + 1) (some c)).run P V = .ok b V' ∧ b = .bool false ∧ Jx (pre ++ [x]) V' := by
      intro c V hV hi'
      obtain ⟨V', rfl, run, vL, vD, vL'⟩ := ends (some c) V hV
      exact ⟨_, _, run, rfl, c, (hIx c).putObj _ hi' (by omega) vL rfl, vD, vL'⟩
    refine wpIn_mono (hbody _ pre x a1 _ bI hlen) ?_
    rintro e a3 V hp
    cases e with
    | normal =>
      obtain ⟨hk, hkp, hi'⟩ := hp
      obtain ⟨V', rfl, run, vL, vD, vL'⟩ := ends none V hk
      exact ⟨_, _, run, .inl ⟨rfl, ⟨hI.putObj _ hi' (by omega) vL rfl, vD, vL'⟩, hKt (hKt bK hkp) (hKb _ _ _ _ (by omega) vL rfl rfl)⟩⟩
    | ret => obtain ⟨b, V', run, rfl, h⟩ := leave .ret V hp.1 hp.2; exact ⟨_, _, run, .inr ⟨rfl, h⟩⟩
    | exit id => obtain ⟨b, V', run, rfl, h⟩ := leave (.exit id) V hp.1 hp.2; exact ⟨_, _, run, .inr ⟨rfl, h⟩⟩
    | goto t => obtain ⟨b, V', run, rfl, h⟩ := leave (.goto t) V hp.1 hp.2; exact ⟨_, _, run, .inr ⟨rfl, h⟩⟩
    | panic ch => exact hp.elim
    | outgrown => exact hp.elim
  refine (hseq (D + 1) J Jx W1 r1 (fun s A B h t => ⟨hIT s A B h.1 t, hT A B D _ t (by omega) (by omega) h.2.1, hT A B (D + 1) _ t (by omega) (by omega) h.2.2⟩)
    (fun s A B h t => by obtain ⟨c, h1, h2, h3⟩ := h; exact ⟨c, hIxT c s A B h1 t, hT A B D _ t (by omega) (by omega) h2, hT A B (D + 1) _ t (by omega) (by omega) h3⟩) yields ⟨i1, kD, kL⟩).mono ?_
  rintro e V (⟨⟨v, rfl⟩, (⟨xs, hS, hi, vD, vL⟩ | ⟨pre, hSp, c, hi, vD, vL⟩)⟩ | ⟨c, pre, rfl, hSx, hi, vD, vL⟩)
  · have run := run_endLoop (P := P) vL (by rw [hrec]; simp)
    rw [hrec] at run
    exact ⟨none, _, run, hdone D xs _ (by omega) hS (hI.putObj _ hi (by omega) vL rfl) ((World.putObj_heap_other (by omega)).trans vD)⟩
  · have run := run_endLoop (P := P) vL (by rw [hrec]; simp)
    rw [hrec] at run
    exact ⟨some c, _, run, hstop D c pre _ (by omega) hSp ((hIx c).putObj _ hi (by omega) vL rfl) ((World.putObj_heap_other (by omega)).trans vD)⟩
  · exact hpanic D c pre _ (by omega) hSx hi vD
end
/-- A range over an iterator, in a function that no loop stands round; the loop's variables may be boxed. -/
theorem wp_rangeQ {P : Program} {α : Type} {Bs : Nat} {g : Operand} {ps : Array Tmp} {assign body : Code} {Q : Exit → Act → World → Prop} {a : Act} {w : World}
    {gf : Nat} {lb : Array Value} (hg : a.eval g = .func (.func gf) #[] lb) (eg : ∀ args w, (callFunc gf args).run P w = .ok (.enter gf args) w)
    {encs : α → Array Value} {kept : Nat → Prop} {S Sp : List α → Prop} {Sx : List α → List PanicEntry → Prop} {N : Nat} {R : World → Prop} (hseq : SeqQ (Turn Bs (w.heap.size + 2)) Fence.wide 4 P gf lb encs (KeepsM kept (w.heap.size + 2)) S Sp Sx N R)
    (hkept : ∀ k, kept k → k < w.heap.size) (hBs : Bs < w.heap.size)
    (hR : ∀ o o' : Obj, R ((w.alloc o).alloc o')) (hps : ∀ x, (encs x).size = ps.size)
    (I : List α → World → Prop) (Ix : Code → List α → World → Prop) (hI : Abides w.heap.size Bs I) (hIx : ∀ c, Abides w.heap.size Bs (Ix c)) (h0 : I [] w) (Ax : Array Value → List α → α → Act → World → Prop) (hAx : ∀ t pre x a' A B row, Ax t pre x a' A → A.grownBy B row → (∀ r, row = some r → w.heap.size ≤ r ∧ ∃ o, A.heap[r]? = some o ∧ o.isCells = false) → Ax t pre x a' B)
    (hassign : ∀ (l : Nat) (pre : List α) (x : α) (W : World) (K : Act → World → Prop), I pre W → pre.length < N → (∀ a' W', Below W.heap.size W W' → Ax a.tmps pre x a' W' → K a' W') →
      assign.wpIn (Fence.wide.inRound l) 3 P (Exit.then K (fun _ _ _ => False)) { tmps := (ps.zip (encs x)).foldl (fun t (p, v) => t.setIfInBounds p v) a.tmps, defers := [] } W)
    (hbody : ∀ (l : Nat) (pre : List α) (x : α) (a' : Act) (W : World), Ax a.tmps pre x a' W → pre.length < N → body.wpIn (Fence.wide.inRound l) 3 P (ownPostK (KeepsM kept (w.heap.size + 2)) I Ix (pre ++ [x]) W) a' W)
    (hdone : ∀ (D : Nat) (xs : List α) (W : World), w.heap.size ≤ D → S xs → I xs W → W.heap[D]? = some (.deferred (some [])) → Q .normal { a with defers := { target := .collected D, args := #[] } :: a.defers } W)
    (hstop : ∀ (D : Nat) (c : Code) (pre : List α) (W : World), w.heap.size ≤ D → Sp pre → Ix c pre W → W.heap[D]? = some (.deferred (some [])) → c.wp P Q { a with defers := { target := .collected D, args := #[] } :: a.defers } W)
    (hpanic : ∀ (D : Nat) (c : List PanicEntry) (pre : List α) (W : World), w.heap.size ≤ D → Sx pre c → I pre W → W.heap[D]? = some (.deferred (some [])) → Q (.panic c) { a with defers := { target := .collected D, args := #[] } :: a.defers } W) :
    (Code.rangeFunc g ps assign body).wp P Q a w := by
  refine (wpIn_wide (n := 5)).1 ?_
  refine wpIn_range_Q (T := Turn Bs (w.heap.size + 2)) rfl (by decide) hg trivial eg hseq (fun h k => ⟨fun i hi => (k.1 i hi).trans (h.1 i hi), fun j o q1 q2 q3 => k.2 j o q1 (h.2 j o q1 q2 q3) q3⟩) ?_ hR hps ?_ I Ix ?_ ?_ ?_ ?_ h0 (Ax a.tmps) (fun pre x a' _ W W' row hs hg hr => hAx _ pre x a' W W' row hs hg hr) (fun W V h1 h2 => ⟨fun k hk => h2.block k (by have := hkept k hk; omega), fun k o q1 q2 q3 => (h2.block k (Array.getElem?_eq_some_iff.1 q2).1).trans q2⟩) hassign hbody hdone (fun D c pre W h1 h2 h3 h4 => wpIn_wide.2 (hstop D c pre W h1 h2 h3 h4)) hpanic
  · intro W l o o' hl _ _ _
    exact ⟨fun k hk => World.putObj_heap_other (by have := hkept k hk; omega), fun k o q1 q2 q3 => (World.putObj_heap_other (by omega)).trans q2⟩
  · rintro A B b o ⟨row, hg, hr⟩ h1 h2 hb
    refine (hg.block b (Array.getElem?_eq_some_iff.1 hb).1 fun e => ?_).trans hb
    rcases hr b e.symm with h | ⟨h, _⟩ <;> omega
  · exact fun s A B row hs hg hr => hI s A B row hs hg fun r e => .inr (hr r e)
  · exact fun c s A B row hs hg hr => hIx c s A B row hs hg fun r e => .inr (hr r e)
  · rintro s A B hs ⟨row, hg, hr⟩
    exact hI s A B row hs hg fun r e => (hr r e).imp id fun h => ⟨by omega, h.2⟩
  · rintro c s A B hs ⟨row, hg, hr⟩
    exact hIx c s A B row hs hg fun r e => (hr r e).imp id fun h => ⟨by omega, h.2⟩
end Go.Proofs.YtahicokokfcieaaGreatDoor
namespace Go.Proofs.YtahicokokfcieaaGreatDoor
open Go.RowKit
open Go.Proofs
set_option linter.unusedVariables false
attribute [local go_sem] Oper.semAt_some
/-- Where a word of a place is. -/
def posL (p k : Nat) : Nat := min p 4096 + k
theorem at_any (p k : Nat) (V : World) (hp : p < 18446744073709551616) (hk : k ≤ 1000) : Calls Tryz.prog 111 #[.int .u64 ((p : Nat) : Int), .int .i64 ((k : Nat) : Int)] V (fun e W => e = .returned (.int .i64 ((posL p k : Nat) : Int)) ∧ W = V) := by
  obtain ⟨m, hm⟩ : ∃ m, min p 4096 = m := ⟨_, rfl⟩
  have hmi : min ((p : Nat) : Int) 4096 = ((m : Nat) : Int) := by omega
  have hm2 : m ≤ 4096 := by omega
  have HP : Hid (posL p k = m + k) := hid (by unfold posL; rw [hm])
  clear hm
  go_enter Tryz.func111, Tryz.ntmps111
  go_wp2
  go_ret
  exact ⟨reti (by rw [HP.out]; go_num), rfl⟩
abbrev brkV : Value := .iface 196 (.agg #[])
abbrev brk : List PanicEntry := [{ v := brkV, recovered := false }]
def liveN (M : Mem) (w : Nat) : Bool := (M.L[w]?).getD false
def freeB (M : Mem) (met : List Nat) (w : Nat) : Bool := liveN M w && !decide (w ∈ met)
/-- Words are taken. -/
def takeP (M : Mem) (p : Nat) : List Nat → List Nat → Option (List Nat)
  | [], met => some met
  | k :: ks, met => if freeB M met (posL p k) = true then takeP M p ks (met ++ [posL p k]) else none
def ones (met : List Nat) : List (Nat × Nat) := met.map fun x => (x, 1)
theorem atM_ones (met : List Nat) (w : Nat) : atMJ (ones met) w = if w ∈ met then 1 else 0 := by
  refine snocRec (p := fun l => atMJ (ones l) w = if w ∈ l then 1 else 0) rfl (fun l x h => ?_) met
  unfold ones at h ⊢
  rw [List.map_append, List.map_singleton, atM_snocJ, h]
  by_cases e : x = w
  · subst e; simp
  · simp only [if_neg e, List.mem_append, List.mem_singleton]
    by_cases hm : w ∈ l
    · simp [hm]
    · rw [if_neg hm, if_neg]
      rintro (h | h)
      · exact hm h
      · exact e h.symm
theorem ones_snoc (met : List Nat) (w : Nat) : ones met ++ [(w, 1)] = ones (met ++ [w]) := by simp [ones]
theorem IdsJ.run {w : World} {b k : Nat} {l : List (Nat × Nat)} (h : IdsJ w b l) (hk : k < 9223372036854775808) {t : TypeId} (ht : Tryz.prog.underlying t = some (.map 3 3)) :
    (Instr.lookup t (.map (some b)) (.int .i64 ((k : Nat) : Int)) false).run Tryz.prog w = .ok (.int .i64 ((atMJ l k : Nat) : Int)) w := by
  obtain ⟨c, hrun, hat, -⟩ := World.ownsMap.lookup_int h keyedUJ ht Tryz.underlying3 (by kernel_rfl) (keyUJ hk)
  rw [mapD_atJ] at hat
  obtain rfl : c = ((atMJ l k : Nat) : Int) := by simp at hat; omega
  exact hrun
theorem map_cell {V : World} {mb : Nat} {l : List (Nat × Nat)} (h : IdsJ V mb l) (i : Nat) : V.cell? ⟨mb, i, none⟩ = none := by
  obtain ⟨es, clock, hb, -⟩ := h
  simp [World.cell?, hb]
theorem Leads.grownM {V V' : World} {a : Option Addr} {n cap mb : Nat} {cs : List Value} {l : List (Nat × Nat)} (h : Leads V a n cap cs) (hm : IdsJ V mb l) (hg : V.grownBy V' (some mb)) : Leads V' a n cap cs := by
  obtain ⟨h1, h2, ⟨h3, h4⟩ | ⟨b, off, h3, h4, h5⟩⟩ := h
  · exact ⟨h1, h2, .inl ⟨h3, h4⟩⟩
  · refine ⟨h1, h2, .inr ⟨b, off, h3, Nat.lt_of_lt_of_le h4 hg.size, fun i v hv => ?_⟩⟩
    have hc := h5 i v hv
    by_cases e : mb = b
    · subst e; rw [map_cell hm] at hc; cases hc
    · have := hg.block b h4 (fun e' => e (Option.some.inj e').symm)
      unfold World.cell? at hc ⊢
      rw [this]
      exact hc
theorem grownBy_refl (V : World) (r : Option Nat) : V.grownBy V r := ⟨rfl, rfl, rfl, Nat.le_refl _, fun _ _ _ => rfl⟩
theorem grownBy_below {V V' : World} (h : Below V.heap.size V V') (r : Option Nat) : V.grownBy V' r := ⟨h.os, h.tape, h.output, h.size, fun k hk _ => h.block k hk⟩
theorem grownBy_trans {A B C : World} {r : Option Nat} (h : A.grownBy B r) (k : B.grownBy C r) : A.grownBy C r :=
  ⟨k.os.trans h.os, k.tape.trans h.tape, k.output.trans h.output, Nat.le_trans h.size k.size, fun b hb hr => (k.block b (Nat.lt_of_lt_of_le hb h.size) hr).trans (h.block b hb hr)⟩
theorem wp_putG {w : World} {ops : Array Oper} {rest : List Oper} {o : Oper} {a : Act} {Q : Exit → Act → World → Prop} (hg : o.guard = none) (m x v : Operand) (t : TypeId) (hop : o.op = Op.mapUpdate t m x v) (ht : Tryz.prog.underlying t = some (.map 3 3))
    (b k u : Nat) (l : List (Nat × Nat)) (hm : a.eval m = .map (some b)) (hown : IdsJ w b l) (hl : l.length ≤ 100000) (hx : a.eval x = .int .i64 ((k : Nat) : Int)) (hv : a.eval v = .int .i64 ((u : Nat) : Int)) (hk : k < 9223372036854775808) (hu : u < 9223372036854775808)
    (h : ∀ w', IdsJ w' b (l ++ [(k, u)]) → w.grownBy w' (some b) → wpList Tryz.prog ops Q rest (a.put o.dst undef) w') : wpList Tryz.prog ops Q (o :: rest) a w := by
  refine wpList_mapUpdate_own w hg m x v t hop 3 3 keyedUJ ht (plainElem Tryz.prog 3) b l.length (mapDJ l) hm hown (by unfold maxLen; omega) _ _ _ hx hv (keyUJ hk) _ [] (plainElem_int Tryz.underlying3 (wfUJ hu)) ?_
  intro w' h1 h2
  refine h w' ?_ h2
  unfold IdsJ
  rw [mapD_snocJ, List.length_append]
  exact h1
theorem takeP_spec (M : Mem) (p : Nat) : ∀ (ks met met' : List Nat), takeP M p ks met = some met' → (∀ k ∈ ks, liveN M (posL p k) = true) ∧ (met.Nodup → met'.Nodup) ∧ met'.length = met.length + ks.length ∧ ∀ x ∈ met', x ∈ met ∨ liveN M x = true
  | [], met, met', h => by
    cases h
    exact ⟨by simp, id, by simp, fun x h => .inl h⟩
  | k :: ks, met, met', h => by
    unfold takeP at h
    split at h
    · rename_i hf
      obtain ⟨h1, h2, h3, h4⟩ := takeP_spec M p ks _ _ h
      unfold freeB at hf
      simp only [Bool.and_eq_true, Bool.not_eq_true', decide_eq_false_iff_not] at hf
      refine ⟨?_, ?_, ?_, ?_⟩
      · intro j hj
        rcases List.mem_cons.1 hj with rfl | hj
        · exact hf.1
        · exact h1 j hj
      · intro hn
        refine h2 ?_
        rw [List.nodup_append]
        refine ⟨hn, by simp, fun a ha b hb => ?_⟩
        rw [List.mem_singleton] at hb
        rintro rfl
        exact hf.2 (hb ▸ ha)
      · rw [h3]; simp; omega
      · intro x hx
        rcases h4 x hx with hx | hx
        · rcases List.mem_append.1 hx with hx | hx
          · exact .inl hx
          · rw [List.mem_singleton] at hx; subst hx; exact .inr hf.1
        · exact .inr hx
    · cases h
theorem nodup_le : ∀ (l l' : List Nat), l.Nodup → (∀ x ∈ l, x ∈ l') → l.length ≤ l'.length
  | [], l', _, _ => Nat.zero_le _
  | a :: l, l', hn, hs => by
    have ha : a ∈ l' := hs a (List.mem_cons_self ..)
    rw [List.nodup_cons] at hn
    have := nodup_le l (l'.erase a) hn.2 (fun x hx => (List.mem_erase_of_ne (fun (e : x = a) => hn.1 (e ▸ hx))).2 (hs x (List.mem_cons_of_mem _ hx)))
    rw [List.length_erase_of_mem ha] at this
    have hp : 0 < l'.length := List.length_pos_of_mem ha
    simp only [List.length_cons]
    omega
theorem nodup_lt {n : Nat} {l : List Nat} (hn : l.Nodup) (h : ∀ x ∈ l, x < n) : l.length ≤ n := by
  have := nodup_le l (List.range n) hn (fun x hx => List.mem_range.2 (h x hx))
  simpa using this
theorem live_lt {M : Mem} {x : Nat} (h : liveN M x = true) : x < M.L.length := by
  unfold liveN at h
  cases hx : M.L[x]? with
  | none => rw [hx] at h; cases h
  | some b => exact (List.getElem?_eq_some_iff.1 hx).1
/-- How many words are met in a world. -/
noncomputable def metLen (mb : Nat) (V : World) : Nat := by
  classical
  exact if h : ∃ met : List Nat, met.Nodup ∧ (∀ x ∈ met, x < 5000) ∧ IdsJ V mb (ones met) then h.choose.length else 0
theorem ids_sub {V : World} {mb : Nat} {l l' : List Nat} (h : IdsJ V mb (ones l)) (h' : IdsJ V mb (ones l')) (hl : ∀ x ∈ l, x < 5000) : ∀ x ∈ l, x ∈ l' := by
  intro x hx
  have h5 := hl x hx
  have e1 := h.run (k := x) (by omega) (t := 212) Tryz.underlying212
  have e2 := h'.run (k := x) (by omega) (t := 212) Tryz.underlying212
  rw [e1] at e2
  simp only [Result.ok.injEq, Value.int.injEq, true_and, and_true] at e2
  rw [atM_ones, atM_ones, if_pos hx] at e2
  by_cases hc : x ∈ l'
  · exact hc
  · rw [if_neg hc] at e2; omega
theorem metLen_eq {V : World} {mb : Nat} {met : List Nat} (h : IdsJ V mb (ones met)) (hn : met.Nodup) (hl : ∀ x ∈ met, x < 5000) : metLen mb V = met.length := by
  have hex : ∃ met : List Nat, met.Nodup ∧ (∀ x ∈ met, x < 5000) ∧ IdsJ V mb (ones met) := ⟨met, hn, hl, h⟩
  unfold metLen
  rw [dif_pos hex]
  obtain ⟨h1, h2, h3⟩ := hex.choose_spec
  exact Nat.le_antisymm (nodup_le _ _ h1 (ids_sub h3 h h2)) (nodup_le _ _ hn (ids_sub h h3 hl))
/-- Words are met. -/
def meetP (M : Mem) : List Nat → List Nat → Option (List Nat)
  | [], met => some met
  | w :: ws, met => if freeB M met w = true then meetP M ws (met ++ [w]) else none
theorem takeP_meet (M : Mem) (p : Nat) : ∀ (ks met : List Nat), takeP M p ks met = meetP M (ks.map (posL p)) met
  | [], met => rfl
  | k :: ks, met => by
    show (if _ then _ else _) = (if _ then _ else _)
    rw [takeP_meet M p ks]
/-- A row of numbers. -/
def mcells (ws : List Nat) : List Value := ws.map fun w => .int .i64 ((w : Nat) : Int)
theorem mcell_at {ws : List Nat} {k w : Nat} (h : ws[k]? = some w) : (mcells ws)[k]? = some (.int .i64 ((w : Nat) : Int)) := by unfold mcells; rw [List.getElem?_map, h]; rfl
set_option maxRecDepth 100000 in
set_option maxHeartbeats 2000000 in
theorem meet_any (M : Mem) (wa la : Option Addr) (wc lc mb : Nat) (ws : List Nat) (b : Option Addr) (m c : Nat) (met : List Nat) (V : World) (h : MemL V wa wc la lc M) (hm : M.L.length = M.W.length) (hi : IdsJ V mb (ones met)) (hl : Leads V b m c (mcells ws)) (hws : ws.length = m) (hw6 : ∀ w ∈ ws, w ≤ 1000000) (hmm : met.length + m ≤ 10000) :
    Calls Tryz.prog 132 #[.map (some mb), memV wa wc la lc M, .slice b m c] V (fun e V' => V.grownBy V' (some mb) ∧
      ((∃ met', meetP M ws met = some met' ∧ e = .returned (.tuple #[]) ∧ IdsJ V' mb (ones met')) ∨ (meetP M ws met = none ∧ e = .panicked brk))) := by
  obtain ⟨V1, hV1, hb1, hs1, hl1⟩ := laid V #[.slice wa M.W.length wc, .slice la M.L.length lc, .bool M.F] 25
  obtain ⟨X, hX⟩ : ∃ X, V.heap.size = X := ⟨_, rfl⟩
  rw [hX] at hl1
  have HX1 := hid hl1
  have HM1 := hid (h.grow hb1)
  have HI1 := hid (hi.grow hb1)
  have HG1 := hid (grownBy_below hb1 (some mb))
  have HL1 := hid (hl.grow hb1)
  have HWS := hid hws
  have HW6 := hid hw6
  have HNX : Hid (mb ≠ X) := hid (by
    rintro rfl
    obtain ⟨es, clock, hb, -⟩ := hi
    have := lt_laid hb
    omega)
  have hwl := h.w.len
  have hll := h.l.len
  have hbl := hl.len
  obtain ⟨RES, hRES⟩ : ∃ R, meetP M ws met = R := ⟨_, rfl⟩
  rw [hRES]
  have HRES := hid hRES
  unfold memV
  rw [hm] at hV1 hll HX1 ⊢
  have HMM := hid hm
  obtain ⟨n, hn⟩ : ∃ n, M.W.length = n := ⟨_, rfl⟩
  rw [hn] at hV1 hwl hll HX1 HMM ⊢
  have HN := hid hn
  clear h hi hl hws hw6 hb1 hs1 hl1 hRES hm hn
  go_enter Tryz.func132, Tryz.ntmps132
  go_wp2
  go_loopg [10] m (fun g i wr => ∃ (k : Nat) (met2 : List Nat), g + k = m ∧ i = .int .i64 ((k : Nat) : Int) ∧ Hid (V1.grownBy wr (some mb)) ∧ Hid (IdsJ wr mb (ones met2)) ∧ Hid (meetP M (ws.drop k) met2 = RES) ∧ Hid (met2.length = met.length + k))
  case atStart => exact ⟨0, met, rfl, rfl, hid (grownBy_refl _ _), HI1, HRES, hid rfl⟩
  case round =>
    obtain ⟨k, met2, hk, rfl, hG, hI, hR, hlen⟩ := hrel
    have HK := hid hk
    clear hk
    by_cases hlt : k < m
    · obtain ⟨w, hwk⟩ : ∃ x, ws[k]? = some x := ⟨_, List.getElem?_eq_getElem (by rw [HWS.out]; exact hlt)⟩
      have hw6 := HW6.out w (List.mem_of_getElem? hwk)
      have hR2 := hR.out
      rw [List.drop_eq_getElem_cons (by rw [HWS.out]; exact hlt), (List.getElem?_eq_some_iff.1 hwk).2] at hR2
      unfold meetP at hR2
      have HR2 := hid hR2
      obtain ⟨x0, x1, x2⟩ := cells3 (keep_grown HX1.out hG.out (fun e => HNX.out (Option.some.inj e)))
      obtain ⟨bb, bo, rfl, -, hc⟩ := (HL1.out.grownM HI1.out hG.out).at hlt (mcell_at hwk)
      have f0 := hc _ (Below.refl _ _)
      have hrun := hI.out.run (k := w) (by omega) (t := 212) Tryz.underlying212
      rw [atM_ones] at hrun
      have t0 : decide (((w : Nat) : Int) < 0) = false := decide_eq_false (by omega)
      clear hc hwk hR2 hR
      by_cases hwn : w < n
      · have t1 : decide (((n : Nat) : Int) ≤ ((w : Nat) : Int)) = false := decide_eq_false (by omega)
        obtain ⟨bv, hbv⟩ : ∃ x, M.L[w]? = some x := ⟨_, List.getElem?_eq_getElem (by rw [HMM.out]; exact hwn)⟩
        have hML := HM1.out.l.grownM HI1.out hG.out
        rw [HMM.out] at hML
        obtain ⟨lb, lo, rfl, -, hc⟩ := hML.at hwn (bcell_at hbv)
        have f1 := hc _ (Below.refl _ _)
        have HBV := hid hbv
        clear hc hbv hML
        cases bv
        case' false =>
          have HF : Hid (freeB M met2 w = false) := hid (by unfold freeB liveN; rw [HBV.out]; rfl)
          go_wp2
          exact ⟨rfl, grownBy_trans HG1.out hG.out, .inr ⟨by rw [← HR2.out, HF.out]; rfl, rfl⟩⟩
        case' true =>
          by_cases hmem : w ∈ met2
          · rw [if_pos hmem] at hrun
            have HF : Hid (freeB M met2 w = false) := hid (by unfold freeB liveN; rw [HBV.out, decide_eq_true hmem]; rfl)
            clear hmem
            go_wp2
            exact ⟨rfl, grownBy_trans HG1.out hG.out, .inr ⟨by rw [← HR2.out, HF.out]; rfl, rfl⟩⟩
          · rw [if_neg hmem] at hrun
            have HF : Hid (freeB M met2 w = true) := hid (by unfold freeB liveN; rw [HBV.out, decide_eq_false hmem]; rfl)
            have HR3 : Hid (meetP M (ws.drop (k + 1)) (met2 ++ [w]) = RES) := hid (by have := HR2.out; rwa [if_pos HF.out] at this)
            have HI2 := hI
            clear hmem hI
            have q1 : (ones met2).length ≤ 100000 := by simp [ones]; have := hlen.out; omega
            go_wp2_with ((with_reducible show wpList _ _ _ _ _ _); refine wp_putG rfl (.tmp 39) (.tmp 40) (.const (.int .i64 1)) 212 rfl Tryz.underlying212 mb w 1 (ones met2) rfl HI2.out q1 rfl rfl ?c2 ?c3 ?c4)
            case c2 => omega
            case c3 => decide
            case c4 =>
              intro w3 hi hg
              rw [ones_snoc] at hi
              have HI3 := hid hi
              have HG3 := hid (grownBy_trans hG.out hg)
              clear hi hg hrun x0 x1 x2 f0 f1
              go_wp2
              go_roundg (gk - 1)
              case measure => have := HK.out; omega
              case rel => exact ⟨k + 1, _, by have := HK.out; omega, by go_num, HG3, HI3, HR3, hid (by rw [List.length_append, hlen.out]; simp; omega)⟩
      · have t1 : decide (((n : Nat) : Int) ≤ ((w : Nat) : Int)) = true := decide_eq_true (by omega)
        have HF : Hid (freeB M met2 w = false) := hid (by unfold freeB liveN; rw [List.getElem?_eq_none (by rw [HMM.out]; omega)]; rfl)
        go_wp2
        exact ⟨rfl, grownBy_trans HG1.out hG.out, .inr ⟨by rw [← HR2.out, HF.out]; rfl, rfl⟩⟩
    · have e := HK.out
      have HE : Hid (RES = some met2) := hid (by rw [← hR.out, List.drop_of_length_le (by rw [HWS.out]; omega)]; rfl)
      clear e
      go_wp2
      go_end0
      exact ⟨grownBy_trans HG1.out hG.out, .inl ⟨met2, HE.out, rfl, hI.out⟩⟩
end Go.Proofs.YtahicokokfcieaaGreatDoor
