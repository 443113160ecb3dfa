/- Lists linked both ways: Ahead (the walk). -/
import Derived.Test.YtoihjmdpbbcbjaaDbl17
namespace Go.Proofs.Ytoihjmdpbbcbjaa
open Go.RowKit
open Go.Proofs
set_option linter.unusedVariables false
attribute [local go_sem] Oper.semAt_some

theorem Backward_any (a : Option Addr) (n cap : Nat) (V : World) (hl : n ≤ 9223372036854775807 ∧ cap ≤ 9223372036854775807) : Calls Try.prog 32 #[.slice a n cap] V (fun e W => e = .returned (.func (.func 49) #[] #[.pointer (some ⟨V.heap.size, 0, none⟩)]) ∧ W = V.alloc (.cells #[.slice a n cap] 32)) := by
  have hmf : ∀ (fn : Fn) (first cap : Array Value) (w : World), (Instr.makeFunc fn first cap).run Try.prog w = .ok (.func fn first cap) w := fun _ _ _ _ => rfl
  go_enter Try.func32, Try.ntmps32
  go_wp2
  go_ret
  exact ⟨rfl, rfl⟩

/-- What the loop over the nodes, the last one first, has made. -/
structure Ahd (w : World) (b9 base : Nat) (pre : List (Nat × Tw)) (v : Value) (W : World) : Prop where
  b : W.heap[b9]? = some (.cells #[v] 22 (0, 0))
  row : W.ownsRow base 26 1 v pre.length (wcells (pre.map fun p => p.2.1))
  below : Below w.heap.size w W
  sz : base ≤ W.heap.size
theorem Ahd.abide {w A B : World} {row : Option Nat} {b9 base Bs : Nat} {pre : List (Nat × Tw)} {v : Value} (h : Ahd w b9 base pre v A) (hg : A.grownBy B row)
    (hr : ∀ r, row = some r → r = Bs ∨ (base ≤ r ∧ ∃ o, A.heap[r]? = some o ∧ o.isCells = false)) (h5 : b9 ≠ Bs) (hb : Bs < base) (hw : w.heap.size ≤ Bs) : Ahd w b9 base pre v B :=
  ⟨cells_abide h.b hg hr h5, own_abide h.row hg hr hb, below_abide h.below hg hr hw (by omega), Nat.le_trans h.sz hg.size⟩
theorem Ahd.grow {w A B : World} {b9 base : Nat} {pre : List (Nat × Tw)} {v : Value} (h : Ahd w b9 base pre v A) (hb : Below A.heap.size A B) : Ahd w b9 base pre v B :=
  ⟨keep_laid h.b hb, own_grow h.row hb, h.below.trans (hb.mono h.below.size), Nat.le_trans h.sz hb.size⟩
def GivesA (xs : List Nat) (code : Nat) (V : World) (e : Ending) (W : World) : Prop := ∃ v, e = .returned (.tuple #[v, .int .i64 ((code : Nat) : Int)]) ∧ W.ownsRow V.heap.size 26 1 v xs.length (wcells xs) ∧ Below V.heap.size V W
set_option maxRecDepth 100000 in
set_option maxHeartbeats 4000000 in
theorem Ahead_any (M : Mem) (wa la : Option Addr) (wc lc head : Nat) (V : World) (h : MemL V wa wc la lc M) (hh : head < 18446744073709551616) (hW : Wok M) :
    Calls Try.prog 11 #[memV wa wc la lc M, .int .u64 ((head : Nat) : Int)] V (GivesA ((lookN M head).1.map (·.1)).reverse (lookN M head).2 V) := by
  obtain ⟨V1, hV1, hb1, hs1, hl1⟩ := laid V #[.slice wa M.W.length wc, .slice la M.L.length lc, .bool M.F] 25
  have HL := hid (look_any M wa la wc lc head V1 (h.grow hb1) hh hW)
  have HLN := hid (lookN_len M head)
  obtain ⟨x0, x1, x2⟩ := cells3 hl1
  have HB1 := hid hb1
  have hwl := h.w.len
  have hll := h.l.len
  unfold memV at HL ⊢
  obtain ⟨n, hn⟩ : ∃ n, M.W.length = n := ⟨_, rfl⟩
  obtain ⟨m, hm⟩ : ∃ n, M.L.length = n := ⟨_, rfl⟩
  obtain ⟨F, hF⟩ : ∃ n, M.F = n := ⟨_, rfl⟩
  rw [hn] at hV1 x0 hwl HL ⊢
  rw [hm] at hV1 x1 hll HL ⊢
  rw [hF] at hV1 x2 HL ⊢
  clear h hl1 hs1 hn hm hF hb1 hh hW
  refine calls_of_wp_marks Try.func11 rfl ?_
  simp only [Try.ntmps11, List.size_toArray, List.length_cons, List.length_nil, Nat.reduceAdd, Nat.reduceSub, Array.replicate_succ, Array.replicate_zero, List.push_toArray, List.append_toArray, List.nil_append, List.cons_append]
  go_wp2_with fail
  refine HL.out.mono ?_
  intro e W hlk
  obtain ⟨xs, code, v, mv, rfl, hU⟩ := look_uni hlk
  have HU := hid hU
  obtain ⟨va, vc, rfl, hlv⟩ := Leads.of_own hU.row
  obtain ⟨q, hq⟩ : ∃ q, xs.length = q := ⟨_, rfl⟩
  rw [hq] at hlv
  have HQ := hid hq
  have hq5 : q ≤ 1100 := by have := HLN.out; rw [hU.eq] at this; rw [← hq]; exact this
  have hlvl := hlv.len
  obtain ⟨W3, hW3, hb3, hs3, hl3⟩ := laid W #[.slice none 0 0] 22
  obtain ⟨W4, hW4, hb4, hs4, hl4⟩ := laid W3 #[.slice va q vc] 32
  obtain ⟨b9, hb9⟩ : ∃ b, W.heap.size = b := ⟨_, rfl⟩
  obtain ⟨Bs, hBs⟩ : ∃ b, W3.heap.size = b := ⟨_, rfl⟩
  rw [hb9] at hl3
  rw [hBs] at hl4
  have HBV := hid (step (step (step HB1.out hU.below) hb3) hb4)
  have h9s : b9 < Bs := by omega
  have hss : Bs < W4.heap.size := lt_laid hl4
  have hV9 : V.heap.size ≤ b9 := by have := HB1.out.size; have := hU.below.size; omega
  have K3 := hid (keep_laid hl3 hb4)
  have K4 := hid hl4
  have HLV := hid (hlv.grow (step hb3 hb4))
  have HVA : Hid (∀ b off, va = some ⟨b, off, none⟩ → b < b9) := hid (by
    rintro b off rfl
    have := (hU.row.lt b rfl).2
    omega)
  have HEQ := hid hU.eq
  have HBK := hid (fun W => Backward_any va q vc W hlvl)
  rw [hq]
  have hW4' := hW4
  clear hlk hU hlv hb3 hb4 hs3 hs4 hl3 hl4 hq hW4
  go_wp2_with (go_at_call 32; refine (HBK.out _).mono ?_; rintro e w' ⟨rfl, rfl⟩)
  refine wp_rangeA (Bs := Bs) (gf := 49) (lb := #[.pointer (some ⟨Bs, 0, none⟩)]) rfl (enters_of Try.func49 (by kernel_rfl) rfl)
    (backward_seq Bs (W4.heap.size + 2) xs va q vc (fun k => k < W4.heap.size ∧ k ≠ b9) HQ.out (by omega) ⟨by omega, by omega⟩ (fun b off e => by have := HVA.out b off e; exact ⟨by omega, by omega⟩))
    (fun k hk => hk.1) (by omega) (fun o o' => ?hR) (fun _ => rfl)
    (fun pre W => ∃ v, Ahd V b9 W4.heap.size pre v W) (fun c pre W => False) ?hI ?hIx ?h0
    (fun t pre p a' W => (∃ v, Ahd V b9 W4.heap.size pre v W) ∧ ∃ B, a' = { tmps := ((t.setIfInBounds 21 (.int .i64 ((p.1 : Nat) : Int))).setIfInBounds 22 (twV p.2)).setIfInBounds 11 (.pointer (some ⟨B, 0, none⟩)), defers := [] } ∧ W4.heap.size ≤ B ∧ W.heap[B]? = some (.cells #[.int .u64 ((p.2.1 : Nat) : Int), .int .u64 ((p.2.2.1 : Nat) : Int), .int .u64 ((p.2.2.2 : Nat) : Int)] 28 (0, 0))) ?hAx ?assign ?body ?done ?stop
  case hR =>
    have g1 := (Below.refl W4.heap.size W4).alloc (Nat.le_refl _) o
    have g2 : Below W4.heap.size W4 ((W4.alloc o).alloc o') := g1.alloc (Nat.le_of_lt (by simp)) o'
    exact ⟨keep_laid K4.out g2, HLV.out.grow g2⟩
  case hI => exact fun s A B row ⟨v, hs⟩ hg hr => ⟨v, hs.abide hg hr (by omega) (by omega) (by omega)⟩
  case hIx => exact fun c s A B row hs hg hr => hs
  case h0 => exact ⟨_, K3.out, World.ownsRow_nil _ _ _ _, HBV.out, Nat.le_refl _⟩
  case hAx =>
    rintro t pre p a' A B row ⟨⟨v, hU⟩, b, e, hb, hc⟩ hg hr
    exact ⟨⟨v, hU.abide (Bs := Bs) hg (fun r e => .inr (hr r e)) (by omega) (by omega) (by omega)⟩, b, e, hb, cells_abide (Bs := Bs) (B0 := W4.heap.size) hc hg (fun r e => .inr (hr r e)) (by omega)⟩
  case assign =>
    rintro l pre ⟨k, p1, p2, p3⟩ W5 K ⟨v, hI⟩ hlen hK
    obtain ⟨wb, hwb, hbb, hsb, hlb⟩ := laid W5 #[.int .u64 ((p1 : Nat) : Int), .int .u64 ((p2 : Nat) : Int), .int .u64 ((p3 : Nat) : Int)] 28
    have HLB := hid hlb
    have HU := hid (hI.grow hbb)
    have HI := hid hI.sz
    clear hlb hsb hI
    unfold twV
    gi_wp2
    refine hK _ _ hbb ⟨⟨_, HU.out⟩, W5.heap.size, rfl, HI.out, HLB.out⟩
  case body =>
    rintro l pre ⟨k, p1, p2, p3⟩ a' W5 ⟨⟨v, hLk⟩, B, rfl, hB, hc⟩ hlen
    have hc5 := cell_laid (i := 0) (v := v) hLk.b rfl
    have hcB := cell_laid (i := 0) hc rfl
    obtain ⟨W6, hW6, hb7, hs7, hl7⟩ := laid W5 #[.int .u64 ((p1 : Nat) : Int)] 26
    have hWs : W4.heap.size ≤ W5.heap.size := hLk.sz
    have HLK := hid (hLk.grow hb7)
    have HL7 := hid hl7
    have hW3s : W4.heap.size ≤ W6.heap.size := HLK.out.sz
    have hlen' : pre.length ≤ 1000000 := by omega
    have HB7 := hid hb7
    clear hLk hc hl7 hs7 hb7
    gi_wp2_with (gi_at_builtin; refine wpIn_append1 elemWords rfl (.tmp 23) (.tmp 26) rfl W4.heap.size v pre.length (wcells (pre.map fun p => p.2.1)) rfl HLK.out.row W5.heap.size [.int .u64 ((p1 : Nat) : Int)] rfl rfl ?c1 ?c2 ?c3 ?c4 ?c5)
    case c1 =>
      intro j u hj
      exact cell_laid HL7.out (by simpa using hj)
    case c2 => first | (intro u hu; simp at hu; subst hu; rfl) | rfl | exact hlen'
    try (case c3 => exact hlen')
    try (case c4 => omega)
    case c5 =>
      intro v' W7 hown' hb8 hg8
      have n4 := (hb8.block b9 (by omega)).trans HLK.out.b
      have hc10 := cell_laid (i := 0) (v := v) n4 rfl
      have hf10 := free_laid (i := 0) n4
      have N4 := hid n4
      obtain ⟨a', cap', rfl, -⟩ := Leads.of_own hown'
      have HO' := hid hown'
      clear n4 hown'
      gi_wp2
      have hK4 : KeepsOthers W6 W7 := KeepsOthers.of_grownBy hg8 fun j o hj ho => by
        rcases HLK.out.row.2 with ⟨e, _⟩ | ⟨g, cap, cur, e, _, hh, _⟩
        · rw [e] at hj; cases hj
        · rw [e] at hj; cases hj; rw [hh] at ho; cases ho; rfl
      refine ⟨((keepsOthers_of_below HB7.out).trans hK4).trans (KeepsOthers.setCell _ _ _), ?_, .slice a' (pre.length + 1) cap', set_laid N4.out _, ?_, ?_, ?_⟩
      · rintro k ⟨hk, hk4⟩
        exact (Below.heap_setCell W7 ⟨b9, 0, none⟩ _ _ (by show k ≠ b9; omega)).trans ((hb8.block _ (by omega)).trans (HB7.out.block _ (by omega)))
      · rw [List.length_append, List.map_append, wcells_app]
        exact ownsRow_setCell_below (a := ⟨b9, 0, none⟩) HO'.out (by show b9 < _; omega) _
      · exact (HLK.out.below.trans (hb8.mono (by omega))).setCell (by show V.heap.size ≤ b9; omega) _
      · exact Nat.le_trans hW3s (Nat.le_trans hb8.size (by simp [World.setCell]))
  case done =>
    rintro D ys W5 hD rfl ⟨v, hA⟩ hK
    have hc5 := cell_laid (i := 0) (v := v) hA.b rfl
    have KK := hid hK
    have HA := hid hA
    clear hK hA
    go_wp2
    refine leaves_mark KK.out (results_tmp2 (t := 4) (u := 5) rfl _ _ _) ?_
    rw [HEQ.out]
    refine ⟨v, rfl, ?_, below_mark HA.out.below (by omega) KK.out⟩
    dsimp only
    rw [← bkL_map, List.length_map]
    exact own_mark (own_base HA.out.row (by have := HBV.out.size; omega)) KK.out _
  case stop =>
    rintro D c pre W5 hD hS hF
    exact hF.elim
end Go.Proofs.Ytoihjmdpbbcbjaa
