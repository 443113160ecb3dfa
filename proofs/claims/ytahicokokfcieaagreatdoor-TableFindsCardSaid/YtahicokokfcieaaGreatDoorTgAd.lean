/- Several texts in one. -/
import Derived.Test.YtahicokokfcieaaGreatDoorProg
import Derived.Test.YtahicokokfcieaaGreatDoorTgAa
import Derived.Maps.OwnOps
import Derived.Maps.OwnSet
import Derived.Test.YtahicokokfcieaaGreatDoorTgAc
namespace Go.Proofs.YtahicokokfcieaaGreatDoor
open Go.RowKit
open Go.Proofs
open Go.Maps (has size Tidy IsMap)
set_option linter.unusedVariables false
theorem wfUJ {k : Nat} (h : k < 9223372036854775808) : (Lit.int .i64 ((k : Nat) : Int)).wf = true := by
  simp [Lit.wf, IntKind.min, IntKind.max, IntKind.signed, IntKind.bits]
  omega
/-- The datum of a map to which these pairs were written, one behind the other. -/
def mapDJ (l : List (Nat × Nat)) : DataW Unit := l.foldl (fun D p => D.put (.int .i64 ((p.1 : Nat) : Int)) (.lit (.int .i64 ((p.2 : Nat) : Int)))) (.map [])
theorem mapD_snocJ (l : List (Nat × Nat)) (p : Nat × Nat) : mapDJ (l ++ [p]) = (mapDJ l).put (.int .i64 ((p.1 : Nat) : Int)) (.lit (.int .i64 ((p.2 : Nat) : Int))) := by simp [mapDJ, List.foldl_append]
theorem isKeyJ (k : Nat) : WideAt.IsKeyLit (.int .i64 ((k : Nat) : Int)) := trivial
theorem mapD_tidyJ (l : List (Nat × Nat)) : Tidy (mapDJ l) := by
  refine snocRec (p := fun l => Tidy (mapDJ l)) Maps.tidy_empty (fun l p h => ?_) l
  rw [mapD_snocJ]; exact h.put (isKeyJ _) _
theorem key_neJ {a b : Nat} (h : a ≠ b) : (Lit.int .i64 ((a : Nat) : Int)) ≠ (Lit.int .i64 ((b : Nat) : Int)) := by
  intro e
  simp only [Lit.int.injEq, true_and] at e
  omega
/-- What is read at a key: what was written there last; 0: nothing was. -/
def atMJ (l : List (Nat × Nat)) (k : Nat) : Nat := l.foldl (fun a p => if p.1 = k then p.2 else a) 0
theorem atM_snocJ (l : List (Nat × Nat)) (p : Nat × Nat) (k : Nat) : atMJ (l ++ [p]) k = if p.1 = k then p.2 else atMJ l k := by simp [atMJ, List.foldl_append]
theorem mapD_atJ (l : List (Nat × Nat)) (k : Nat) : (mapDJ l).atKey (.int .i64 ((k : Nat) : Int)) (.lit (.int .i64 0)) = .lit (.int .i64 ((atMJ l k : Nat) : Int)) := by
  refine snocRec (p := fun l => (mapDJ l).atKey (.int .i64 ((k : Nat) : Int)) (.lit (.int .i64 0)) = .lit (.int .i64 ((atMJ l k : Nat) : Int))) rfl (fun l p h => ?_) l
  rw [mapD_snocJ, atM_snocJ]
  by_cases e : p.1 = k
  · rw [← e, Maps.atKey_put_same (mapD_tidyJ l).isMap (isKeyJ _), if_pos rfl]
  · rw [Maps.atKey_put_other (key_neJ (Ne.symm e)), h, if_neg e]
/-- A block is a map to which these pairs were written. -/
def IdsJ (w : World) (b : Nat) (l : List (Nat × Nat)) : Prop := World.ownsMap w Tryz.prog 3 (plainElem Tryz.prog 3) b l.length (mapDJ l)
theorem keyedUJ : Maps.Keyed Tryz.prog 3 := Maps.int_keyed Tryz.underlying3
theorem keyUJ {k : Nat} (h : k < 9223372036854775808) : keyOf Tryz.prog 3 (.int .i64 ((k : Nat) : Int)) = some (.int .i64 ((k : Nat) : Int)) := Maps.keyOf_int_mk Tryz.underlying3 (wfUJ h)
theorem IdsJ.made (w : World) : IdsJ (w.alloc (.map #[] 0)) w.heap.size [] := World.ownsMap_made w _ _ _
theorem IdsJ.grow {w w' : World} {b : Nat} {l : List (Nat × Nat)} (h : IdsJ w b l) (hb : Below w.heap.size w w') : IdsJ w' b l := by
  have hlt := World.ownsMap.lt h
  obtain ⟨es, clock, hb', F, hs, hD⟩ := h
  exact ⟨es, clock, (hb.block b hlt).trans hb', F, hs, hD⟩
theorem below_grownJ {w w' : World} {b base : Nat} (h : w.grownBy w' (some b)) (hb : base ≤ b) (hs : base ≤ w.heap.size) : Below base w w' := (Below.refl base w).grown h hs (fun k e => by cases e; exact hb)
theorem IdsJ.len {w : World} {b : Nat} {l : List (Nat × Nat)} (h : IdsJ w b l) {t : TypeId} (ht : Tryz.prog.underlying t = some (.map 3 3)) (ty : TypeId) : (Builtin.len_ #[t] ty #[.map (some b)]).run Tryz.prog w = .ok (.int .i64 ((size (mapDJ l) : Nat) : Int)) w := World.ownsMap.len h ht ty
end Go.Proofs.YtahicokokfcieaaGreatDoor
namespace Go.Proofs.YtahicokokfcieaaGreatDoor
open Go.RowKit
open Go.Proofs
set_option linter.unusedVariables false
/-- Where the building of a memory is. -/
structure WK (B X Y Z : Nat) (wa la : Option Addr) (n wc lc : Nat) (F : Bool) (u1 u2 v1 : Value) (k1 : Nat) (A1 : List Nat) (v2 : Value) (k2 : Nat) (A2 : List Bool) (w V : World) : Prop where
  bx : V.heap[X]? = some (.cells #[.slice wa n wc, .slice la n lc, .bool F] 25 (0, 0))
  bY : V.heap[Y]? = some (.cells #[u1, u2, .bool F] 25 (0, 0))
  bz : V.heap[Z]? = some (.cells #[.slice none 0 0, .slice none 0 0, .bool false] 25 (0, 0))
  rw_ : V.ownsRow B 26 1 v1 k1 (wcells A1)
  rl : V.ownsRow B 4 1 v2 k2 (bcells A2)
  lo : B ≤ Y
  zn : Z ≠ Y
  xn : X ≠ Y
  below : Below B w V
section
variable {B X Y Z : Nat} {wa la : Option Addr} {n wc lc : Nat} {F : Bool} {u1 u2 v1 : Value} {k1 : Nat} {A1 : List Nat} {v2 : Value} {k2 : Nat} {A2 : List Bool} {w V V' : World}
theorem WK.sz (h : WK B X Y Z wa la n wc lc F u1 u2 v1 k1 A1 v2 k2 A2 w V) : B ≤ V.heap.size := Nat.le_of_lt (Nat.lt_of_le_of_lt h.lo (lt_laid h.bY))
theorem WK.grow (h : WK B X Y Z wa la n wc lc F u1 u2 v1 k1 A1 v2 k2 A2 w V) (hb : Below V.heap.size V V') : WK B X Y Z wa la n wc lc F u1 u2 v1 k1 A1 v2 k2 A2 w V' :=
  ⟨keep_laid h.bx hb, keep_laid h.bY hb, keep_laid h.bz hb, own_grow h.rw_ hb, own_grow h.rl hb, h.lo, h.zn, h.xn, h.below.trans (hb.mono h.sz)⟩
theorem WK.appW {v1' : Value} {x : Nat} (h : WK B X Y Z wa la n wc lc F u1 u2 v1 k1 A1 v2 k2 A2 w V) (ho : V'.ownsRow B 26 1 v1' (k1 + 1) (wcells A1 ++ wcells [x])) (hg : V.grownBy V' v1.ownBlock) :
    WK B X Y Z wa la n wc lc F u1 u2 v1' (k1 + 1) (A1 ++ [x]) v2 k2 A2 w V' := by
  have hm : ∀ (b : Nat) (o : Obj), V.heap[b]? = some o → (∀ cur, o ≠ .cells cur 26 (0, 0)) → V'.heap[b]? = some o := fun b o hb hne => keep_grown hb hg fun e => by
    obtain ⟨cur, hc⟩ := own_type h.rw_ _ e
    rw [hb] at hc
    exact hne cur (Option.some.inj hc)
  have hM : ∀ (b : Nat) (vs : Array Value), V.heap[b]? = some (.cells vs 25 (0, 0)) → V'.heap[b]? = some (.cells vs 25 (0, 0)) := fun b vs hb => hm b _ hb (by intro cur e; cases e)
  refine ⟨hM _ _ h.bx, hM _ _ h.bY, hM _ _ h.bz, by rw [wcells_app]; exact ho, own_keep h.rl (fun k o hk hh => hm k o hh (by
    obtain ⟨cur, hc⟩ := own_type h.rl k hk
    rw [hh] at hc
    obtain rfl := Option.some.inj hc
    intro cur e; cases e)), h.lo, h.zn, h.xn, h.below.trans (own_below h.rw_ hg h.sz)⟩
theorem WK.appL {v2' : Value} {x : Bool} (h : WK B X Y Z wa la n wc lc F u1 u2 v1 k1 A1 v2 k2 A2 w V) (ho : V'.ownsRow B 4 1 v2' (k2 + 1) (bcells A2 ++ bcells [x])) (hg : V.grownBy V' v2.ownBlock) :
    WK B X Y Z wa la n wc lc F u1 u2 v1 k1 A1 v2' (k2 + 1) (A2 ++ [x]) w V' := by
  have hm : ∀ (b : Nat) (o : Obj), V.heap[b]? = some o → (∀ cur, o ≠ .cells cur 4 (0, 0)) → V'.heap[b]? = some o := fun b o hb hne => keep_grown hb hg fun e => by
    obtain ⟨cur, hc⟩ := own_type h.rl _ e
    rw [hb] at hc
    exact hne cur (Option.some.inj hc)
  have hM : ∀ (b : Nat) (vs : Array Value), V.heap[b]? = some (.cells vs 25 (0, 0)) → V'.heap[b]? = some (.cells vs 25 (0, 0)) := fun b vs hb => hm b _ hb (by intro cur e; cases e)
  refine ⟨hM _ _ h.bx, hM _ _ h.bY, hM _ _ h.bz, own_keep h.rw_ (fun k o hk hh => hm k o hh (by
    obtain ⟨cur, hc⟩ := own_type h.rw_ k hk
    rw [hh] at hc
    obtain rfl := Option.some.inj hc
    intro cur e; cases e)), by rw [show bcells (A2 ++ [x]) = bcells A2 ++ bcells [x] by simp [bcells]]; exact ho, h.lo, h.zn, h.xn, h.below.trans (own_below h.rl hg h.sz)⟩
theorem WK.st (h : WK B X Y Z wa la n wc lc F u1 u2 v1 k1 A1 v2 k2 A2 w V) (e1 e2 : Value) : WK B X Y Z wa la n wc lc F e1 e2 v1 k1 A1 v2 k2 A2 w ((V.setCell ⟨Y, 0, none⟩ e1).setCell ⟨Y, 1, none⟩ e2) := by
  have s0 := set_laid (i := 0) h.bY e1
  refine ⟨other_laid (other_laid h.bx h.xn _) h.xn _, set_laid (i := 1) s0 e2, other_laid (other_laid h.bz h.zn _) h.zn _, own_keep h.rw_ (fun k o hk hh => ?_), own_keep h.rl (fun k o hk hh => ?_), h.lo, h.zn, h.xn, (h.below.setCell h.lo _).setCell h.lo _⟩
  · obtain ⟨cur', hc⟩ := own_type h.rw_ k hk
    have := type_ne hc h.bY (by decide)
    exact other_laid (other_laid hh this _) this _
  · obtain ⟨cur', hc⟩ := own_type h.rl k hk
    have := type_ne hc h.bY (by decide)
    exact other_laid (other_laid hh this _) this _
end
/-- What a round of the building reads. -/
structure RW (X Y b o b' o' : Nat) (u1 u2 q1 q2 : Value) (x : Nat) (c : Bool) where
  v : World
  x0 : v.cell? ⟨X, 0, none⟩ = some u1
  x1 : v.cell? ⟨X, 1, none⟩ = some u2
  y0 : v.cell? ⟨Y, 0, none⟩ = some q1
  y1 : v.cell? ⟨Y, 1, none⟩ = some q2
  d1 : v.cell? ⟨b, o, none⟩ = some (.int .u64 ((x : Nat) : Int))
  d2 : v.cell? ⟨b', o', none⟩ = some (.bool c)
theorem with_result {W : World} {b : Nat} {v0 v1 v2 : Value} {tmps : Array Value} (h : W.heap[b]? = some (.cells #[v0, v1, v2] 25 (0, 0))) (hp : tmps[8]?.getD undef = .pointer (some ⟨b, 0, none⟩)) :
    (results Tryz.f83 tmps).run Tryz.prog W = .ok (.agg #[v0, v1, v2]) W := by
  have h0 := cell_laid (i := 0) (v := v0) h rfl
  have h1 := cell_laid (i := 1) (v := v1) h rfl
  have h2 := cell_laid (i := 2) (v := v2) h rfl
  simp [results, Tryz.results83, go_sem, hp, h0, h1, h2]
set_option maxRecDepth 100000 in
set_option maxHeartbeats 4000000 in
theorem RefWith_any (M : Mem) (at_ new : Nat) (wa la : Option Addr) (wc lc : Nat) (V : World) (h : MemL V wa wc la lc M) (hlen : M.L.length = M.W.length) (hW : M.W.length ≤ 5000) (hat : at_ < M.W.length) :
    Calls Tryz.prog 83 #[memV wa wc la lc M, .int .i64 ((at_ : Nat) : Int), .int .u64 ((new : Nat) : Int), .bool true] V (GivesM ⟨M.W.set at_ new, M.L.set at_ true, M.F⟩ V) := by
  obtain ⟨n, hn⟩ : ∃ n, M.W.length = n := ⟨_, rfl⟩
  obtain ⟨F, hF⟩ : ∃ F, M.F = F := ⟨_, rfl⟩
  have hwl := h.w
  have hll := h.l
  unfold memV
  rw [hlen, hn] at hll ⊢
  rw [hn] at hwl hW hat
  rw [hF]
  obtain ⟨V0, hV0, hb0, hs0, hl0⟩ := laid V #[.slice wa n wc, .slice la n lc, .bool F] 25
  obtain ⟨V1, hV1, hb1, hs1, hl1⟩ := laid V0 #[.slice none 0 0, .slice none 0 0, .bool false] 25
  obtain ⟨V2, hV2, hb2, hs2, hl2⟩ := laid V1 #[.slice none 0 0, .slice none 0 0, .bool false] 25
  obtain ⟨X, hX⟩ : ∃ X, V.heap.size = X := ⟨_, rfl⟩
  obtain ⟨Z, hZ⟩ : ∃ Z, V0.heap.size = Z := ⟨_, rfl⟩
  obtain ⟨Y, hY⟩ : ∃ Y, V1.heap.size = Y := ⟨_, rfl⟩
  have hBB := (step (step hb0 hb1) hb2)
  have hXZ : X < Z := by omega
  have hZY : Z < Y := by omega
  rw [hX] at hl0 hBB
  rw [hZ] at hl1
  rw [hY] at hl2
  have kx := keep_laid hl0 (step hb1 hb2)
  have kz := keep_laid hl1 hb2
  obtain ⟨W', hW'⟩ : ∃ W', M.W.set at_ new = W' := ⟨_, rfl⟩
  obtain ⟨L', hL'⟩ : ∃ L', M.L.set at_ true = L' := ⟨_, rfl⟩
  have hWl : W'.length = n := by rw [← hW', List.length_set, hn]
  have hLl : L'.length = n := by rw [← hL', List.length_set, hlen, hn]
  obtain ⟨V3, hV3, hy3, hk3, hb3, -⟩ := put_mem hl2 (.slice none 0 0) (.slice none 0 0) (.bool F)
  have HJ0 : Hid (WK X X Y Z wa la n wc lc F (.slice none 0 0) (.slice none 0 0) (.slice none 0 0) 0 (W'.take 0) (.slice none 0 0) 0 (L'.take 0) V V3) := hid ⟨hk3 _ _ (by omega) kx, hy3, hk3 _ _ (by omega) kz, World.ownsRow_nil _ _ _ _, World.ownsRow_nil _ _ _ _, by omega, by omega, by omega, hb3 _ _ (by omega) hBB⟩
  have HV3 := hid hV3
  have x0 := cell_laid (i := 0) kx rfl
  have x2 := cell_laid (i := 2) kx rfl
  have f0 := free_laid (i := 0) hl2
  have f1 := free_laid (i := 1) hl2
  have f2 := free_laid (i := 2) hl2
  obtain ⟨c0, c1, c2⟩ := cells3 hl2
  have hne1 : X ≠ Y := by omega
  have hne2 : Y ≠ X := by omega
  have y01 : V1.cell? ⟨X, 2, none⟩ = some (.bool F) := cell_laid (keep_laid hl0 hb1) rfl
  have hwlen := hwl.len
  have hllen := hll.len
  have HWD : Hid (∀ k x, k < n → M.W[k]? = some x → ∃ b off, wa = some ⟨b, off, none⟩ ∧ ∀ w', Below X V w' → w'.cell? ⟨b, off + k, none⟩ = some (.int .u64 ((x : Nat) : Int))) := hid (fun k x hk hx => by
    obtain ⟨b, off, e, -, hc⟩ := hwl.at hk (wcell_at hx)
    exact ⟨b, off, e, fun w' hb => hc w' (by rw [hX]; exact hb)⟩)
  have HLD : Hid (∀ k x, k < n → M.L[k]? = some x → ∃ b off, la = some ⟨b, off, none⟩ ∧ ∀ w', Below X V w' → w'.cell? ⟨b, off + k, none⟩ = some (.bool x)) := hid (fun k x hk hx => by
    obtain ⟨b, off, e, -, hc⟩ := hll.at hk (bcell_at hx)
    exact ⟨b, off, e, fun w' hb => hc w' (by rw [hX]; exact hb)⟩)
  have HN := hid hn
  have HM := hid (hlen.trans hn)
  have HW' := hid hW'
  have HL' := hid hL'
  have HWl := hid hWl
  have HLl := hid hLl
  have HX := hid hX
  have HXZ : Hid (X ≤ Z) := hid (by omega)
  clear h hwl hll hlen hn hF hb0 hs0 hl0 hb1 hs1 hl1 hb2 hs2 hl2 hBB kx kz hV3 hy3 hk3 hb3 hXZ hZY hW' hL' hWl hLl
  go_enter Tryz.func83, Tryz.ntmps83
  go_wp2
  go_loopg [17] n (fun g i wr => ∃ (k : Nat) (v1 v2 : Value), g + k = n ∧ i = .int .i64 (k : Nat) ∧ Hid (WK X X Y Z wa la n wc lc F v1 v2 v1 k (W'.take k) v2 k (L'.take k) V wr))
  case atStart => exact ⟨0, _, _, rfl, rfl, HV3.out ▸ HJ0⟩
  case round =>
    obtain ⟨k, v1, v2, hk, rfl, hJ⟩ := hrel
    have HK := hid hk
    clear hk
    obtain ⟨a1, q1, rfl, -⟩ := Leads.of_own hJ.out.rw_
    obtain ⟨a2, q2, rfl, -⟩ := Leads.of_own hJ.out.rl
    by_cases hlt : k < n
    · obtain ⟨x, hxk⟩ : ∃ x, M.W[k]? = some x := ⟨_, List.getElem?_eq_getElem (by rw [HN.out]; exact hlt)⟩
      obtain ⟨c, hck⟩ : ∃ x, M.L[k]? = some x := ⟨_, List.getElem?_eq_getElem (by rw [HM.out]; exact hlt)⟩
      obtain ⟨b, o, rfl, hwd⟩ := HWD.out k x hlt hxk
      obtain ⟨b', o', rfl, hld⟩ := HLD.out k c hlt hck
      have HCL : Hid (∀ (v1 : Value) (k1 : Nat) (A1 : List Nat) (v2 : Value) (k2 : Nat) (A2 : List Bool) (W : World), WK X X Y Z (some ⟨b, o, none⟩) (some ⟨b', o', none⟩) n wc lc F (.slice a1 k q1) (.slice a2 k q2) v1 k1 A1 v2 k2 A2 V W → ∃ z : RW X Y b (o + k) b' (o' + k) (.slice (some ⟨b, o, none⟩) n wc) (.slice (some ⟨b', o', none⟩) n lc) (.slice a1 k q1) (.slice a2 k q2) x c, W = z.v) :=
        hid (fun v1 k1 A1 v2 k2 A2 W hw => ⟨⟨W, cell_laid hw.bx rfl, cell_laid hw.bx rfl, cell_laid hw.bY rfl, cell_laid hw.bY rfl, hwd W hw.below, hld W hw.below⟩, rfl⟩)
      have KD := hid (hJ.out.grow (Below.refl _ _).drew)
      have hdr := HCL.out _ _ _ _ _ _ _ KD.out
      haveI : Nonempty (RW X Y b (o + k) b' (o' + k) (.slice (some ⟨b, o, none⟩) n wc) (.slice (some ⟨b', o', none⟩) n lc) (.slice a1 k q1) (.slice a2 k q2) x c) := hdr.elim fun z _ => ⟨z⟩
      have e0 : ∀ z : RW X Y b (o + k) b' (o' + k) (.slice (some ⟨b, o, none⟩) n wc) (.slice (some ⟨b', o', none⟩) n lc) (.slice a1 k q1) (.slice a2 k q2) x c, z.v.cell? ⟨X, 0, none⟩ = some (.slice (some ⟨b, o, none⟩) n wc) := fun z => z.x0
      have e1 : ∀ z : RW X Y b (o + k) b' (o' + k) (.slice (some ⟨b, o, none⟩) n wc) (.slice (some ⟨b', o', none⟩) n lc) (.slice a1 k q1) (.slice a2 k q2) x c, z.v.cell? ⟨X, 1, none⟩ = some (.slice (some ⟨b', o', none⟩) n lc) := fun z => z.x1
      have e2 : ∀ z : RW X Y b (o + k) b' (o' + k) (.slice (some ⟨b, o, none⟩) n wc) (.slice (some ⟨b', o', none⟩) n lc) (.slice a1 k q1) (.slice a2 k q2) x c, z.v.cell? ⟨Y, 0, none⟩ = some (.slice a1 k q1) := fun z => z.y0
      have e3 : ∀ z : RW X Y b (o + k) b' (o' + k) (.slice (some ⟨b, o, none⟩) n wc) (.slice (some ⟨b', o', none⟩) n lc) (.slice a1 k q1) (.slice a2 k q2) x c, z.v.cell? ⟨Y, 1, none⟩ = some (.slice a2 k q2) := fun z => z.y1
      have e4 : ∀ z : RW X Y b (o + k) b' (o' + k) (.slice (some ⟨b, o, none⟩) n wc) (.slice (some ⟨b', o', none⟩) n lc) (.slice a1 k q1) (.slice a2 k q2) x c, z.v.cell? ⟨b, o + k, none⟩ = some (.int .u64 ((x : Nat) : Int)) := fun z => z.d1
      have e5 : ∀ z : RW X Y b (o + k) b' (o' + k) (.slice (some ⟨b, o, none⟩) n wc) (.slice (some ⟨b', o', none⟩) n lc) (.slice a1 k q1) (.slice a2 k q2) x c, z.v.cell? ⟨b', o' + k, none⟩ = some (.bool c) := fun z => z.d2
      by_cases he : k = at_
      · subst he
        have HTW : Hid (W'.take k ++ [new] = W'.take (k + 1)) := hid (by rw [List.take_add_one, ← HW'.out, List.getElem?_set_self (by rw [HN.out]; exact hlt)]; rfl)
        have HTL : Hid (L'.take k ++ [true] = L'.take (k + 1)) := hid (by rw [List.take_add_one, ← HL'.out, List.getElem?_set_self (by rw [HM.out]; exact hlt)]; rfl)
        clear hxk hck hwd hld hJ
        go_upto_region 6 with (fail)
        refine wp_region_mix3 (fun W => ∃ z : RW X Y b (o + k) b' (o' + k) (.slice (some ⟨b, o, none⟩) n wc) (.slice (some ⟨b', o', none⟩) n lc) (.slice a1 k q1) (.slice a2 k q2) x c, W = z.v) 11 (.q 0 (.q 1 (.q 2 (.q 5 (.q 6 (.q 7 (.h2 3 (.h2 4 (.q 10 (.h 8 (.h 9 (.done)))) 8 (.h 4 (.q 10 (.h 9 (.done))))) 8 (.h 3 (.h 4 (.q 10 (.h 9 (.done)))))))))))) (by kernel_rfl) (by kernel_rfl) hdr ?_
        clear hdr
        repeat (refine wpMix3_q rfl rfl ?_; go_big_quiet_step (fail); refine wpQuiet_nil ?_)
        obtain ⟨wD, hwD⟩ : ∃ wD, wr.drew = wD := ⟨_, rfl⟩
        rw [hwD] at KD ⊢
        clear hwD e0 e1 e2 e3 e4 e5
        refine wpMix3_h2 ?_ ?_
        · refine wpMix3_h rfl fun R' hR' hO => ?_
          obtain ⟨w1_, hw1_, hbw1_, hsw1_, hlw1_⟩ := laid wD #[.int .u64 ((new : Nat) : Int)] 26
          obtain ⟨Gw1_, hGw1_⟩ : ∃ G, wD.heap.size = G := ⟨_, rfl⟩
          rw [hGw1_] at hlw1_ hsw1_
          have K1_ := hid (KD.out.grow hbw1_)
          have HGw1_ := hid hlw1_
          have HBw1_ := hid hbw1_
          clear hbw1_ hsw1_ hlw1_
          go_wp2
          refine hR' _ _ (HCL.out _ _ _ _ _ _ _ K1_.out) ?_
          clear hR' hO R' hGw1_ hw1_
          repeat (refine wpMix3_q rfl rfl ?_; go_big_quiet_step (fail); refine wpQuiet_nil ?_)
          refine wpMix3_h2 ?_ ?_
          · refine wpMix3_h rfl fun R' hR' hO => ?_
            refine wp_appendM elemWords rfl (.tmp 24) (.tmp 26) rfl X (.slice a1 k q1) k (wcells (W'.take k)) rfl K1_.out.rw_ ⟨Gw1_, 0, none⟩ 1 1 (wcells [new]) rfl rfl ?_ ?_ ?_ ?_ ?_
            · intro j u hu
              refine cell_add ?_
              rw [Nat.zero_add]
              exact cell_laid HGw1_.out (by simpa [wcells] using hu)
            · intro u hu
              obtain ⟨y, -, rfl⟩ := List.mem_map.1 hu
              rfl
            · omega
            · exact K1_.out.sz
            intro vw2_ w2_ ho hg hm
            have K2_ := hid (K1_.out.appW ho hg)
            obtain ⟨aw2_, cw2_, rfl, -⟩ := Leads.of_own ho
            clear ho hg hm
            go_wp2
            refine hR' _ _ (HCL.out _ _ _ _ _ _ _ K2_.out) ?_
            clear hR' hO R'
            repeat (refine wpMix3_q rfl rfl ?_; go_big_quiet_step (fail); refine wpQuiet_nil ?_)
            refine wpMix3_h rfl fun R' hR' hO => ?_
            obtain ⟨w3_, hw3_, hbw3_, hsw3_, hlw3_⟩ := laid w2_ #[.bool true] 4
            obtain ⟨Gw3_, hGw3_⟩ : ∃ G, w2_.heap.size = G := ⟨_, rfl⟩
            rw [hGw3_] at hlw3_ hsw3_
            have K3_ := hid (K2_.out.grow hbw3_)
            have HGw3_ := hid hlw3_
            have HBw3_ := hid hbw3_
            clear hbw3_ hsw3_ hlw3_
            go_wp2
            refine hR' _ _ (HCL.out _ _ _ _ _ _ _ K3_.out) ?_
            clear hR' hO R' hGw3_ hw3_
            repeat (refine wpMix3_q rfl rfl ?_; go_big_quiet_step (fail); refine wpQuiet_nil ?_)
            refine wpMix3_h rfl fun R' hR' hO => ?_
            refine wp_appendM elemBools rfl (.tmp 29) (.tmp 31) rfl X (.slice a2 k q2) k (bcells (L'.take k)) rfl K3_.out.rl ⟨Gw3_, 0, none⟩ 1 1 (bcells [true]) rfl rfl ?_ ?_ ?_ ?_ ?_
            · intro j u hu
              refine cell_add ?_
              rw [Nat.zero_add]
              exact cell_laid HGw3_.out (by simpa [bcells] using hu)
            · intro u hu
              obtain ⟨y, -, rfl⟩ := List.mem_map.1 hu
              rfl
            · omega
            · exact K3_.out.sz
            intro vw4_ w4_ ho hg hm
            have K4_ := hid (K3_.out.appL ho hg)
            obtain ⟨aw4_, cw4_, rfl, -⟩ := Leads.of_own ho
            clear ho hg hm
            go_wp2
            refine hR' _ _ (HCL.out _ _ _ _ _ _ _ K4_.out) ?_
            clear hR' hO R'
            repeat (refine wpMix3_q rfl rfl ?_; go_big_quiet_step (fail); refine wpQuiet_nil ?_)
            refine wpMix3_done ?_
            simp only [List.drop_succ_cons, List.drop_zero]
            have KF := hid (K4_.out.st (.slice aw2_ (k + 1) cw2_) (.slice aw4_ (k + 1) cw4_))
            rw [HTW.out, HTL.out] at KF
            have f0 := free_laid (i := 0) K4_.out.bY
            have f1 := free_laid (i := 1) K4_.out.bY
            have c0 := cell_laid (i := 0) K4_.out.bY rfl
            have c1 := cell_laid (i := 1) K4_.out.bY rfl
            go_wp2
            go_roundg (gk - 1)
            case measure => have := HK.out; omega
            case rel => exact ⟨k + 1, _, _, by have := HK.out; omega, by go_num, KF⟩
          · refine wpMix3_h rfl fun R' hR' hO => ?_
            obtain ⟨w5_, hw5_, hbw5_, hsw5_, hlw5_⟩ := laid w1_ #[.bool true] 4
            obtain ⟨Gw5_, hGw5_⟩ : ∃ G, w1_.heap.size = G := ⟨_, rfl⟩
            rw [hGw5_] at hlw5_ hsw5_
            have K5_ := hid (K1_.out.grow hbw5_)
            have HGw5_ := hid hlw5_
            have HBw5_ := hid hbw5_
            clear hbw5_ hsw5_ hlw5_
            go_wp2
            refine hR' _ _ (HCL.out _ _ _ _ _ _ _ K5_.out) ?_
            clear hR' hO R' hGw5_ hw5_
            have HKW5_ := hid (keep_laid HGw1_.out HBw5_.out)
            repeat (refine wpMix3_q rfl rfl ?_; go_big_quiet_step (fail); refine wpQuiet_nil ?_)
            refine wpMix3_h rfl fun R' hR' hO => ?_
            refine wp_appendM elemWords rfl (.tmp 24) (.tmp 26) rfl X (.slice a1 k q1) k (wcells (W'.take k)) rfl K5_.out.rw_ ⟨Gw1_, 0, none⟩ 1 1 (wcells [new]) rfl rfl ?_ ?_ ?_ ?_ ?_
            · intro j u hu
              refine cell_add ?_
              rw [Nat.zero_add]
              exact cell_laid HKW5_.out (by simpa [wcells] using hu)
            · intro u hu
              obtain ⟨y, -, rfl⟩ := List.mem_map.1 hu
              rfl
            · omega
            · exact K5_.out.sz
            intro vw6_ w6_ ho hg hm
            have K6_ := hid (K5_.out.appW ho hg)
            obtain ⟨aw6_, cw6_, rfl, -⟩ := Leads.of_own ho
            have HKL6_ := hid (keep_grown HGw5_.out hg (fun e => by obtain ⟨cur, hc⟩ := own_type K5_.out.rw_ _ e; exact type_ne hc HGw5_.out (by decide) rfl))
            clear ho hg hm
            go_wp2
            refine hR' _ _ (HCL.out _ _ _ _ _ _ _ K6_.out) ?_
            clear hR' hO R'
            repeat (refine wpMix3_q rfl rfl ?_; go_big_quiet_step (fail); refine wpQuiet_nil ?_)
            refine wpMix3_h rfl fun R' hR' hO => ?_
            refine wp_appendM elemBools rfl (.tmp 29) (.tmp 31) rfl X (.slice a2 k q2) k (bcells (L'.take k)) rfl K6_.out.rl ⟨Gw5_, 0, none⟩ 1 1 (bcells [true]) rfl rfl ?_ ?_ ?_ ?_ ?_
            · intro j u hu
              refine cell_add ?_
              rw [Nat.zero_add]
              exact cell_laid HKL6_.out (by simpa [bcells] using hu)
            · intro u hu
              obtain ⟨y, -, rfl⟩ := List.mem_map.1 hu
              rfl
            · omega
            · exact K6_.out.sz
            intro vw7_ w7_ ho hg hm
            have K7_ := hid (K6_.out.appL ho hg)
            obtain ⟨aw7_, cw7_, rfl, -⟩ := Leads.of_own ho
            clear ho hg hm
            go_wp2
            refine hR' _ _ (HCL.out _ _ _ _ _ _ _ K7_.out) ?_
            clear hR' hO R'
            repeat (refine wpMix3_q rfl rfl ?_; go_big_quiet_step (fail); refine wpQuiet_nil ?_)
            refine wpMix3_done ?_
            simp only [List.drop_succ_cons, List.drop_zero]
            have KF := hid (K7_.out.st (.slice aw6_ (k + 1) cw6_) (.slice aw7_ (k + 1) cw7_))
            rw [HTW.out, HTL.out] at KF
            have f0 := free_laid (i := 0) K7_.out.bY
            have f1 := free_laid (i := 1) K7_.out.bY
            have c0 := cell_laid (i := 0) K7_.out.bY rfl
            have c1 := cell_laid (i := 1) K7_.out.bY rfl
            go_wp2
            go_roundg (gk - 1)
            case measure => have := HK.out; omega
            case rel => exact ⟨k + 1, _, _, by have := HK.out; omega, by go_num, KF⟩
        · refine wpMix3_h rfl fun R' hR' hO => ?_
          obtain ⟨w8_, hw8_, hbw8_, hsw8_, hlw8_⟩ := laid wD #[.bool true] 4
          obtain ⟨Gw8_, hGw8_⟩ : ∃ G, wD.heap.size = G := ⟨_, rfl⟩
          rw [hGw8_] at hlw8_ hsw8_
          have K8_ := hid (KD.out.grow hbw8_)
          have HGw8_ := hid hlw8_
          have HBw8_ := hid hbw8_
          clear hbw8_ hsw8_ hlw8_
          go_wp2
          refine hR' _ _ (HCL.out _ _ _ _ _ _ _ K8_.out) ?_
          clear hR' hO R' hGw8_ hw8_
          repeat (refine wpMix3_q rfl rfl ?_; go_big_quiet_step (fail); refine wpQuiet_nil ?_)
          refine wpMix3_h rfl fun R' hR' hO => ?_
          obtain ⟨w9_, hw9_, hbw9_, hsw9_, hlw9_⟩ := laid w8_ #[.int .u64 ((new : Nat) : Int)] 26
          obtain ⟨Gw9_, hGw9_⟩ : ∃ G, w8_.heap.size = G := ⟨_, rfl⟩
          rw [hGw9_] at hlw9_ hsw9_
          have K9_ := hid (K8_.out.grow hbw9_)
          have HGw9_ := hid hlw9_
          have HBw9_ := hid hbw9_
          clear hbw9_ hsw9_ hlw9_
          go_wp2
          refine hR' _ _ (HCL.out _ _ _ _ _ _ _ K9_.out) ?_
          clear hR' hO R' hGw9_ hw9_
          have HKL9_ := hid (keep_laid HGw8_.out HBw9_.out)
          repeat (refine wpMix3_q rfl rfl ?_; go_big_quiet_step (fail); refine wpQuiet_nil ?_)
          refine wpMix3_h rfl fun R' hR' hO => ?_
          refine wp_appendM elemWords rfl (.tmp 24) (.tmp 26) rfl X (.slice a1 k q1) k (wcells (W'.take k)) rfl K9_.out.rw_ ⟨Gw9_, 0, none⟩ 1 1 (wcells [new]) rfl rfl ?_ ?_ ?_ ?_ ?_
          · intro j u hu
            refine cell_add ?_
            rw [Nat.zero_add]
            exact cell_laid HGw9_.out (by simpa [wcells] using hu)
          · intro u hu
            obtain ⟨y, -, rfl⟩ := List.mem_map.1 hu
            rfl
          · omega
          · exact K9_.out.sz
          intro vw10_ w10_ ho hg hm
          have K10_ := hid (K9_.out.appW ho hg)
          obtain ⟨aw10_, cw10_, rfl, -⟩ := Leads.of_own ho
          have HKL10_ := hid (keep_grown HKL9_.out hg (fun e => by obtain ⟨cur, hc⟩ := own_type K9_.out.rw_ _ e; exact type_ne hc HKL9_.out (by decide) rfl))
          clear ho hg hm
          go_wp2
          refine hR' _ _ (HCL.out _ _ _ _ _ _ _ K10_.out) ?_
          clear hR' hO R'
          repeat (refine wpMix3_q rfl rfl ?_; go_big_quiet_step (fail); refine wpQuiet_nil ?_)
          refine wpMix3_h rfl fun R' hR' hO => ?_
          refine wp_appendM elemBools rfl (.tmp 29) (.tmp 31) rfl X (.slice a2 k q2) k (bcells (L'.take k)) rfl K10_.out.rl ⟨Gw8_, 0, none⟩ 1 1 (bcells [true]) rfl rfl ?_ ?_ ?_ ?_ ?_
          · intro j u hu
            refine cell_add ?_
            rw [Nat.zero_add]
            exact cell_laid HKL10_.out (by simpa [bcells] using hu)
          · intro u hu
            obtain ⟨y, -, rfl⟩ := List.mem_map.1 hu
            rfl
          · omega
          · exact K10_.out.sz
          intro vw11_ w11_ ho hg hm
          have K11_ := hid (K10_.out.appL ho hg)
          obtain ⟨aw11_, cw11_, rfl, -⟩ := Leads.of_own ho
          clear ho hg hm
          go_wp2
          refine hR' _ _ (HCL.out _ _ _ _ _ _ _ K11_.out) ?_
          clear hR' hO R'
          repeat (refine wpMix3_q rfl rfl ?_; go_big_quiet_step (fail); refine wpQuiet_nil ?_)
          refine wpMix3_done ?_
          simp only [List.drop_succ_cons, List.drop_zero]
          have KF := hid (K11_.out.st (.slice aw10_ (k + 1) cw10_) (.slice aw11_ (k + 1) cw11_))
          rw [HTW.out, HTL.out] at KF
          have f0 := free_laid (i := 0) K11_.out.bY
          have f1 := free_laid (i := 1) K11_.out.bY
          have c0 := cell_laid (i := 0) K11_.out.bY rfl
          have c1 := cell_laid (i := 1) K11_.out.bY rfl
          go_wp2
          go_roundg (gk - 1)
          case measure => have := HK.out; omega
          case rel => exact ⟨k + 1, _, _, by have := HK.out; omega, by go_num, KF⟩
      · have HTW : Hid (W'.take k ++ [x] = W'.take (k + 1)) := hid (by rw [List.take_add_one, ← HW'.out, List.getElem?_set_ne (fun e => he e.symm), hxk]; rfl)
        have HTL : Hid (L'.take k ++ [c] = L'.take (k + 1)) := hid (by rw [List.take_add_one, ← HL'.out, List.getElem?_set_ne (fun e => he e.symm), hck]; rfl)
        have t0 : (((k : Nat) : Int) == ((at_ : Nat) : Int)) = false := by simp; omega
        clear hxk hck hwd hld hJ
        go_upto_region 7 with (fail)
        refine wp_region_mix3 (fun W => ∃ z : RW X Y b (o + k) b' (o' + k) (.slice (some ⟨b, o, none⟩) n wc) (.slice (some ⟨b', o', none⟩) n lc) (.slice a1 k q1) (.slice a2 k q2) x c, W = z.v) 19 (.q 0 (.q 1 (.q 2 (.q 3 (.q 4 (.q 5 (.q 6 (.q 9 (.q 10 (.q 11 (.q 12 (.q 13 (.q 14 (.q 15 (.h2 7 (.h2 8 (.q 18 (.h 16 (.h 17 (.done)))) 16 (.h 8 (.q 18 (.h 17 (.done))))) 16 (.h 7 (.h 8 (.q 18 (.h 17 (.done)))))))))))))))))))) (by kernel_rfl) (by kernel_rfl) hdr ?_
        clear hdr
        repeat (refine wpMix3_q rfl rfl ?_; go_big_quiet_step (fail); refine wpQuiet_nil ?_)
        obtain ⟨wD, hwD⟩ : ∃ wD, wr.drew = wD := ⟨_, rfl⟩
        rw [hwD] at KD ⊢
        clear hwD e0 e1 e2 e3 e4 e5
        refine wpMix3_h2 ?_ ?_
        · refine wpMix3_h rfl fun R' hR' hO => ?_
          obtain ⟨w12_, hw12_, hbw12_, hsw12_, hlw12_⟩ := laid wD #[.int .u64 ((x : Nat) : Int)] 26
          obtain ⟨Gw12_, hGw12_⟩ : ∃ G, wD.heap.size = G := ⟨_, rfl⟩
          rw [hGw12_] at hlw12_ hsw12_
          have K12_ := hid (KD.out.grow hbw12_)
          have HGw12_ := hid hlw12_
          have HBw12_ := hid hbw12_
          clear hbw12_ hsw12_ hlw12_
          go_wp2
          refine hR' _ _ (HCL.out _ _ _ _ _ _ _ K12_.out) ?_
          clear hR' hO R' hGw12_ hw12_
          repeat (refine wpMix3_q rfl rfl ?_; go_big_quiet_step (fail); refine wpQuiet_nil ?_)
          refine wpMix3_h2 ?_ ?_
          · refine wpMix3_h rfl fun R' hR' hO => ?_
            refine wp_appendM elemWords rfl (.tmp 36) (.tmp 42) rfl X (.slice a1 k q1) k (wcells (W'.take k)) rfl K12_.out.rw_ ⟨Gw12_, 0, none⟩ 1 1 (wcells [x]) rfl rfl ?_ ?_ ?_ ?_ ?_
            · intro j u hu
              refine cell_add ?_
              rw [Nat.zero_add]
              exact cell_laid HGw12_.out (by simpa [wcells] using hu)
            · intro u hu
              obtain ⟨y, -, rfl⟩ := List.mem_map.1 hu
              rfl
            · omega
            · exact K12_.out.sz
            intro vw13_ w13_ ho hg hm
            have K13_ := hid (K12_.out.appW ho hg)
            obtain ⟨aw13_, cw13_, rfl, -⟩ := Leads.of_own ho
            clear ho hg hm
            go_wp2
            refine hR' _ _ (HCL.out _ _ _ _ _ _ _ K13_.out) ?_
            clear hR' hO R'
            repeat (refine wpMix3_q rfl rfl ?_; go_big_quiet_step (fail); refine wpQuiet_nil ?_)
            refine wpMix3_h rfl fun R' hR' hO => ?_
            obtain ⟨w14_, hw14_, hbw14_, hsw14_, hlw14_⟩ := laid w13_ #[.bool c] 4
            obtain ⟨Gw14_, hGw14_⟩ : ∃ G, w13_.heap.size = G := ⟨_, rfl⟩
            rw [hGw14_] at hlw14_ hsw14_
            have K14_ := hid (K13_.out.grow hbw14_)
            have HGw14_ := hid hlw14_
            have HBw14_ := hid hbw14_
            clear hbw14_ hsw14_ hlw14_
            go_wp2
            refine hR' _ _ (HCL.out _ _ _ _ _ _ _ K14_.out) ?_
            clear hR' hO R' hGw14_ hw14_
            repeat (refine wpMix3_q rfl rfl ?_; go_big_quiet_step (fail); refine wpQuiet_nil ?_)
            refine wpMix3_h rfl fun R' hR' hO => ?_
            refine wp_appendM elemBools rfl (.tmp 45) (.tmp 51) rfl X (.slice a2 k q2) k (bcells (L'.take k)) rfl K14_.out.rl ⟨Gw14_, 0, none⟩ 1 1 (bcells [c]) rfl rfl ?_ ?_ ?_ ?_ ?_
            · intro j u hu
              refine cell_add ?_
              rw [Nat.zero_add]
              exact cell_laid HGw14_.out (by simpa [bcells] using hu)
            · intro u hu
              obtain ⟨y, -, rfl⟩ := List.mem_map.1 hu
              rfl
            · omega
            · exact K14_.out.sz
            intro vw15_ w15_ ho hg hm
            have K15_ := hid (K14_.out.appL ho hg)
            obtain ⟨aw15_, cw15_, rfl, -⟩ := Leads.of_own ho
            clear ho hg hm
            go_wp2
            refine hR' _ _ (HCL.out _ _ _ _ _ _ _ K15_.out) ?_
            clear hR' hO R'
            repeat (refine wpMix3_q rfl rfl ?_; go_big_quiet_step (fail); refine wpQuiet_nil ?_)
            refine wpMix3_done ?_
            simp only [List.drop_succ_cons, List.drop_zero]
            have KF := hid (K15_.out.st (.slice aw13_ (k + 1) cw13_) (.slice aw15_ (k + 1) cw15_))
            rw [HTW.out, HTL.out] at KF
            have f0 := free_laid (i := 0) K15_.out.bY
            have f1 := free_laid (i := 1) K15_.out.bY
            have c0 := cell_laid (i := 0) K15_.out.bY rfl
            have c1 := cell_laid (i := 1) K15_.out.bY rfl
            go_wp2
            go_roundg (gk - 1)
            case measure => have := HK.out; omega
            case rel => exact ⟨k + 1, _, _, by have := HK.out; omega, by go_num, KF⟩
          · refine wpMix3_h rfl fun R' hR' hO => ?_
            obtain ⟨w16_, hw16_, hbw16_, hsw16_, hlw16_⟩ := laid w12_ #[.bool c] 4
            obtain ⟨Gw16_, hGw16_⟩ : ∃ G, w12_.heap.size = G := ⟨_, rfl⟩
            rw [hGw16_] at hlw16_ hsw16_
            have K16_ := hid (K12_.out.grow hbw16_)
            have HGw16_ := hid hlw16_
            have HBw16_ := hid hbw16_
            clear hbw16_ hsw16_ hlw16_
            go_wp2
            refine hR' _ _ (HCL.out _ _ _ _ _ _ _ K16_.out) ?_
            clear hR' hO R' hGw16_ hw16_
            have HKW16_ := hid (keep_laid HGw12_.out HBw16_.out)
            repeat (refine wpMix3_q rfl rfl ?_; go_big_quiet_step (fail); refine wpQuiet_nil ?_)
            refine wpMix3_h rfl fun R' hR' hO => ?_
            refine wp_appendM elemWords rfl (.tmp 36) (.tmp 42) rfl X (.slice a1 k q1) k (wcells (W'.take k)) rfl K16_.out.rw_ ⟨Gw12_, 0, none⟩ 1 1 (wcells [x]) rfl rfl ?_ ?_ ?_ ?_ ?_
            · intro j u hu
              refine cell_add ?_
              rw [Nat.zero_add]
              exact cell_laid HKW16_.out (by simpa [wcells] using hu)
            · intro u hu
              obtain ⟨y, -, rfl⟩ := List.mem_map.1 hu
              rfl
            · omega
            · exact K16_.out.sz
            intro vw17_ w17_ ho hg hm
            have K17_ := hid (K16_.out.appW ho hg)
            obtain ⟨aw17_, cw17_, rfl, -⟩ := Leads.of_own ho
            have HKL17_ := hid (keep_grown HGw16_.out hg (fun e => by obtain ⟨cur, hc⟩ := own_type K16_.out.rw_ _ e; exact type_ne hc HGw16_.out (by decide) rfl))
            clear ho hg hm
            go_wp2
            refine hR' _ _ (HCL.out _ _ _ _ _ _ _ K17_.out) ?_
            clear hR' hO R'
            repeat (refine wpMix3_q rfl rfl ?_; go_big_quiet_step (fail); refine wpQuiet_nil ?_)
            refine wpMix3_h rfl fun R' hR' hO => ?_
            refine wp_appendM elemBools rfl (.tmp 45) (.tmp 51) rfl X (.slice a2 k q2) k (bcells (L'.take k)) rfl K17_.out.rl ⟨Gw16_, 0, none⟩ 1 1 (bcells [c]) rfl rfl ?_ ?_ ?_ ?_ ?_
            · intro j u hu
              refine cell_add ?_
              rw [Nat.zero_add]
              exact cell_laid HKL17_.out (by simpa [bcells] using hu)
            · intro u hu
              obtain ⟨y, -, rfl⟩ := List.mem_map.1 hu
              rfl
            · omega
            · exact K17_.out.sz
            intro vw18_ w18_ ho hg hm
            have K18_ := hid (K17_.out.appL ho hg)
            obtain ⟨aw18_, cw18_, rfl, -⟩ := Leads.of_own ho
            clear ho hg hm
            go_wp2
            refine hR' _ _ (HCL.out _ _ _ _ _ _ _ K18_.out) ?_
            clear hR' hO R'
            repeat (refine wpMix3_q rfl rfl ?_; go_big_quiet_step (fail); refine wpQuiet_nil ?_)
            refine wpMix3_done ?_
            simp only [List.drop_succ_cons, List.drop_zero]
            have KF := hid (K18_.out.st (.slice aw17_ (k + 1) cw17_) (.slice aw18_ (k + 1) cw18_))
            rw [HTW.out, HTL.out] at KF
            have f0 := free_laid (i := 0) K18_.out.bY
            have f1 := free_laid (i := 1) K18_.out.bY
            have c0 := cell_laid (i := 0) K18_.out.bY rfl
            have c1 := cell_laid (i := 1) K18_.out.bY rfl
            go_wp2
            go_roundg (gk - 1)
            case measure => have := HK.out; omega
            case rel => exact ⟨k + 1, _, _, by have := HK.out; omega, by go_num, KF⟩
        · refine wpMix3_h rfl fun R' hR' hO => ?_
          obtain ⟨w19_, hw19_, hbw19_, hsw19_, hlw19_⟩ := laid wD #[.bool c] 4
          obtain ⟨Gw19_, hGw19_⟩ : ∃ G, wD.heap.size = G := ⟨_, rfl⟩
          rw [hGw19_] at hlw19_ hsw19_
          have K19_ := hid (KD.out.grow hbw19_)
          have HGw19_ := hid hlw19_
          have HBw19_ := hid hbw19_
          clear hbw19_ hsw19_ hlw19_
          go_wp2
          refine hR' _ _ (HCL.out _ _ _ _ _ _ _ K19_.out) ?_
          clear hR' hO R' hGw19_ hw19_
          repeat (refine wpMix3_q rfl rfl ?_; go_big_quiet_step (fail); refine wpQuiet_nil ?_)
          refine wpMix3_h rfl fun R' hR' hO => ?_
          obtain ⟨w20_, hw20_, hbw20_, hsw20_, hlw20_⟩ := laid w19_ #[.int .u64 ((x : Nat) : Int)] 26
          obtain ⟨Gw20_, hGw20_⟩ : ∃ G, w19_.heap.size = G := ⟨_, rfl⟩
          rw [hGw20_] at hlw20_ hsw20_
          have K20_ := hid (K19_.out.grow hbw20_)
          have HGw20_ := hid hlw20_
          have HBw20_ := hid hbw20_
          clear hbw20_ hsw20_ hlw20_
          go_wp2
          refine hR' _ _ (HCL.out _ _ _ _ _ _ _ K20_.out) ?_
          clear hR' hO R' hGw20_ hw20_
          have HKL20_ := hid (keep_laid HGw19_.out HBw20_.out)
          repeat (refine wpMix3_q rfl rfl ?_; go_big_quiet_step (fail); refine wpQuiet_nil ?_)
          refine wpMix3_h rfl fun R' hR' hO => ?_
          refine wp_appendM elemWords rfl (.tmp 36) (.tmp 42) rfl X (.slice a1 k q1) k (wcells (W'.take k)) rfl K20_.out.rw_ ⟨Gw20_, 0, none⟩ 1 1 (wcells [x]) rfl rfl ?_ ?_ ?_ ?_ ?_
          · intro j u hu
            refine cell_add ?_
            rw [Nat.zero_add]
            exact cell_laid HGw20_.out (by simpa [wcells] using hu)
          · intro u hu
            obtain ⟨y, -, rfl⟩ := List.mem_map.1 hu
            rfl
          · omega
          · exact K20_.out.sz
          intro vw21_ w21_ ho hg hm
          have K21_ := hid (K20_.out.appW ho hg)
          obtain ⟨aw21_, cw21_, rfl, -⟩ := Leads.of_own ho
          have HKL21_ := hid (keep_grown HKL20_.out hg (fun e => by obtain ⟨cur, hc⟩ := own_type K20_.out.rw_ _ e; exact type_ne hc HKL20_.out (by decide) rfl))
          clear ho hg hm
          go_wp2
          refine hR' _ _ (HCL.out _ _ _ _ _ _ _ K21_.out) ?_
          clear hR' hO R'
          repeat (refine wpMix3_q rfl rfl ?_; go_big_quiet_step (fail); refine wpQuiet_nil ?_)
          refine wpMix3_h rfl fun R' hR' hO => ?_
          refine wp_appendM elemBools rfl (.tmp 45) (.tmp 51) rfl X (.slice a2 k q2) k (bcells (L'.take k)) rfl K21_.out.rl ⟨Gw19_, 0, none⟩ 1 1 (bcells [c]) rfl rfl ?_ ?_ ?_ ?_ ?_
          · intro j u hu
            refine cell_add ?_
            rw [Nat.zero_add]
            exact cell_laid HKL21_.out (by simpa [bcells] using hu)
          · intro u hu
            obtain ⟨y, -, rfl⟩ := List.mem_map.1 hu
            rfl
          · omega
          · exact K21_.out.sz
          intro vw22_ w22_ ho hg hm
          have K22_ := hid (K21_.out.appL ho hg)
          obtain ⟨aw22_, cw22_, rfl, -⟩ := Leads.of_own ho
          clear ho hg hm
          go_wp2
          refine hR' _ _ (HCL.out _ _ _ _ _ _ _ K22_.out) ?_
          clear hR' hO R'
          repeat (refine wpMix3_q rfl rfl ?_; go_big_quiet_step (fail); refine wpQuiet_nil ?_)
          refine wpMix3_done ?_
          simp only [List.drop_succ_cons, List.drop_zero]
          have KF := hid (K22_.out.st (.slice aw21_ (k + 1) cw21_) (.slice aw22_ (k + 1) cw22_))
          rw [HTW.out, HTL.out] at KF
          have f0 := free_laid (i := 0) K22_.out.bY
          have f1 := free_laid (i := 1) K22_.out.bY
          have c0 := cell_laid (i := 0) K22_.out.bY rfl
          have c1 := cell_laid (i := 1) K22_.out.bY rfl
          go_wp2
          go_roundg (gk - 1)
          case measure => have := HK.out; omega
          case rel => exact ⟨k + 1, _, _, by have := HK.out; omega, by go_num, KF⟩
    · have e := HK.out
      obtain rfl : k = n := by omega
      obtain ⟨V5, hV5, hz5, hk5, hb5, hm5⟩ := put_mem hJ.out.bz (.slice a1 k q1) (.slice a2 k q2) (.bool F)
      have f0 := free_laid (i := 0) hJ.out.bz
      have f1 := free_laid (i := 1) hJ.out.bz
      have f2 := free_laid (i := 2) hJ.out.bz
      obtain ⟨z0, z1, z2⟩ := cells3 hJ.out.bz
      obtain ⟨y0, y1, y2⟩ := cells3 hJ.out.bY
      have hMO : MemO X a1 q1 a2 q2 ⟨W', L', F⟩ wr := by
        have r1 := hJ.out.rw_
        have r2 := hJ.out.rl
        rw [List.take_of_length_le (by rw [HWl.out]; exact Nat.le_refl _)] at r1
        rw [List.take_of_length_le (by rw [HLl.out]; exact Nat.le_refl _)] at r2
        exact ⟨by show wr.ownsRow X _ 1 (.slice a1 W'.length q1) W'.length _; rw [HWl.out]; exact r1, by show wr.ownsRow X _ 1 (.slice a2 L'.length q2) L'.length _; rw [HLl.out]; exact r2⟩
      have HM5 := hid (hm5 _ _ _ _ _ _ hMO)
      have HB5 := hid (hb5 _ _ (show X ≤ Z from HXZ.out) hJ.out.below)
      have HZ5 := hid hz5
      have HV5 := hid hV5
      clear hJ e hV5 hz5 hk5 hb5 hm5 hMO HK
      go_wp2
      rw [← HV5.out]
      refine bodyPost_ret (with_result HZ5.out rfl) rfl ?_
      refine ⟨a1, q1, a2, q2, ?_, ?_, ?_⟩
      · rw [HW'.out, HL'.out]
        unfold memV
        simp only [HWl.out, HLl.out]
      · rw [HW'.out, HL'.out, HX.out]
        exact HM5.out
      · rw [HX.out]
        exact HB5.out
end Go.Proofs.YtahicokokfcieaaGreatDoor
namespace Go.Proofs.YtahicokokfcieaaGreatDoor
open Go.RowKit
open Go.Proofs
set_option linter.unusedVariables false
theorem put_both {V : World} {Z G : Nat} {z0 z1 z2 u0 u1 : Value} (hz : V.heap[Z]? = some (.cells #[z0, z1, z2] 25 (0, 0))) (hg : V.heap[G]? = some (.cells #[u0, u1] 111 (0, 0))) (hne : G ≠ Z) (v0 v1 v2 w0 w1 : Value) :
    ∃ V', V' = ((((V.setCell ⟨Z, 0, none⟩ v0).setCell ⟨Z, 1, none⟩ v1).setCell ⟨Z, 2, none⟩ v2).setCell ⟨G, 0, none⟩ w0).setCell ⟨G, 1, none⟩ w1 ∧ V'.heap[Z]? = some (.cells #[v0, v1, v2] 25 (0, 0)) ∧ V'.heap[G]? = some (.cells #[w0, w1] 111 (0, 0)) ∧
      (∀ (B : Nat) (w : World), B ≤ Z → B ≤ G → Below B w V → Below B w V') ∧
      ∀ (base : Nat) (wa : Option Addr) (wc : Nat) (la : Option Addr) (lc : Nat) (M : Mem), MemO base wa wc la lc M V → MemO base wa wc la lc M V' := by
  obtain ⟨V1, hV1, hz1, hk1, hb1, hm1⟩ := put_mem hz v0 v1 v2
  have hg1 := hk1 G _ hne hg
  obtain ⟨V2, hV2, hg2, hk2, hb2⟩ := put2 hg1 w0 w1
  refine ⟨V2, by rw [hV2, hV1], hk2 Z _ (Ne.symm hne) hz1, hg2, fun B w h1 h2 hb => hb2 B w h2 (hb1 B w h1 hb), fun base wa wc la lc M hm => (hm1 _ _ _ _ _ _ hm).keep hg1 (by decide) (by decide) hk2⟩
theorem refstep_result {W : World} {b c : Nat} {v0 v1 v2 u0 u1 : Value} {tmps : Array Value} (h : W.heap[b]? = some (.cells #[v0, v1, v2] 25 (0, 0))) (h' : W.heap[c]? = some (.cells #[u0, u1] 111 (0, 0))) (hp : tmps[4]?.getD undef = .pointer (some ⟨b, 0, none⟩)) (hq : tmps[5]?.getD undef = .pointer (some ⟨c, 0, none⟩)) :
    (results Tryz.f57 tmps).run Tryz.prog W = .ok (.tuple #[.agg #[v0, v1, v2], .agg #[u0, u1]]) W := by
  have h0 := cell_laid (i := 0) (v := v0) h rfl
  have h1 := cell_laid (i := 1) (v := v1) h rfl
  have h2 := cell_laid (i := 2) (v := v2) h rfl
  have g0 := cell_laid (i := 0) (v := u0) h' rfl
  have g1 := cell_laid (i := 1) (v := u1) h' rfl
  simp [results, Tryz.results57, go_sem, hp, hq, h0, h1, h2, g0, g1]
/-- A call gives a memory that lies there, what a word held, whether it was done. -/
def keptA (V : World) (wa wa' : Option Addr) : Prop := wa' = wa ∨ ∀ b off, wa' = some ⟨b, off, none⟩ → V.heap.size ≤ b
def GivesR (wa0 la0 : Option Addr) (M : Mem) (v : Nat) (d : Bool) (w : World) (e : Ending) (W : World) : Prop := ∃ wa wc la lc, e = .returned (.tuple #[memV wa wc la lc M, .agg #[.int .u64 ((v : Nat) : Int), .bool d]]) ∧ MemL W wa wc la lc M ∧ Below w.heap.size w W ∧ keptA w wa0 wa ∧ keptA w la0 la
set_option maxRecDepth 100000 in
set_option maxHeartbeats 4000000 in
theorem RefStep_any (M : Mem) (wa la : Option Addr) (wc_ lc : Nat) (st : Bool) (K at_ : Int) (old new : Nat) (V : World) (h : MemL V wa wc_ la lc M) (hok : okM M = true) (hat : -9223372036854775808 ≤ at_ ∧ at_ ≤ 9223372036854775807) (hK : K = if st = true then 2 else 1) :
    Calls Tryz.prog 57 #[memV wa wc_ la lc M, .agg #[.int .i64 K, .int .i64 at_, .int .u64 ((old : Nat) : Int), .int .u64 ((new : Nat) : Int)]] V (GivesR wa la (stepM M st at_ new).1 (stepM M st at_ new).2.1 (stepM M st at_ new).2.2 V) := by
  obtain ⟨hn1, hn4, hmn, -⟩ := okM_spec hok
  obtain ⟨V1, hV1, hb1, hs1, hl1⟩ := laid V #[.slice wa M.W.length wc_, .slice la M.L.length lc, .bool M.F] 25
  obtain ⟨V2, hV2, hb2, hs2, hl2⟩ := laid V1 #[.int .i64 K, .int .i64 at_, .int .u64 ((old : Nat) : Int), .int .u64 ((new : Nat) : Int)] 115
  obtain ⟨V3, hV3, hb3, hs3, hl3⟩ := laid V2 #[.slice none 0 0, .slice none 0 0, .bool false] 25
  obtain ⟨V4, hV4, hb4, hs4, hl4⟩ := laid V3 #[.int .u64 0, .bool false] 111
  obtain ⟨X, hX⟩ : ∃ X, V.heap.size = X := ⟨_, rfl⟩
  obtain ⟨A, hA⟩ : ∃ A, V1.heap.size = A := ⟨_, rfl⟩
  obtain ⟨Z, hZ⟩ : ∃ Z, V2.heap.size = Z := ⟨_, rfl⟩
  obtain ⟨G, hG⟩ : ∃ G, V3.heap.size = G := ⟨_, rfl⟩
  rw [hX] at hl1
  rw [hA] at hl2
  rw [hZ] at hl3
  rw [hG] at hl4
  have HX := hid (keep_laid (keep_laid (keep_laid hl1 hb2) hb3) hb4)
  have HA := hid (keep_laid (keep_laid hl2 hb3) hb4)
  have HZ := hid (keep_laid hl3 hb4)
  have HG := hid hl4
  have HB4 := hid (step (step (step hb1 hb2) hb3) hb4)
  have HXV : Hid (V.heap.size ≤ X) := hid (by rw [← hX]; exact Nat.le_refl _)
  have HZV : Hid (V.heap.size ≤ Z) := hid (by rw [← hZ]; exact (step hb1 hb2).size)
  have HGV : Hid (V.heap.size ≤ G) := hid (by rw [← hG]; exact (step (step hb1 hb2) hb3).size)
  have HGZ : Hid (G ≠ Z) := hid (by have := lt_laid hl3; omega)
  have HZX : Hid (Z ≠ X) := hid (by omega)
  have HGX : Hid (G ≠ X) := hid (by omega)
  have HM := hid (h.grow HB4.out)
  have hwl := h.w.len
  have hll := h.l.len
  unfold memV
  obtain ⟨F, hF⟩ : ∃ F, M.F = F := ⟨_, rfl⟩
  obtain ⟨n, hn⟩ : ∃ n, M.W.length = n := ⟨_, rfl⟩
  have hm : M.L.length = n := hmn.trans hn
  rw [hn] at hV1 HX hwl hn1 hn4
  rw [hm] at hV1 HX hll
  rw [hF] at hV1 HX
  rw [hn, hm, hF]
  have HN := hid hn
  have HMM := hid hm
  have HF := hid hF
  have HK := hid hK
  obtain ⟨x0, x1, x2⟩ := cells3 HX.out
  have a0 := cell_laid (i := 0) HA.out rfl
  have a1 := cell_laid (i := 1) HA.out rfl
  have a2 := cell_laid (i := 2) HA.out rfl
  have a3 := cell_laid (i := 3) HA.out rfl
  have HWD : Hid (∀ k x, k < n → M.W[k]? = some x → ∃ b off, wa = some ⟨b, off, none⟩ ∧ ∀ w', Below V.heap.size V w' → w'.cell? ⟨b, off + k, none⟩ = some (.int .u64 ((x : Nat) : Int))) := hid (fun k x hk hx => by
    obtain ⟨b, off, e, -, hc⟩ := h.w.at (by rw [hn]; exact hk) (wcell_at hx)
    exact ⟨b, off, e, hc⟩)
  have HLD : Hid (∀ k x, k < n → M.L[k]? = some x → ∃ b off, la = some ⟨b, off, none⟩ ∧ ∀ w', Below V.heap.size V w' → w'.cell? ⟨b, off + k, none⟩ = some (.bool x)) := hid (fun k x hk hx => by
    obtain ⟨b, off, e, -, hc⟩ := h.l.at (by rw [hm]; exact hk) (bcell_at hx)
    exact ⟨b, off, e, hc⟩)
  have H := hid h
  obtain ⟨LV, hLV⟩ : ∃ LV, liveAt M at_ = LV := ⟨_, rfl⟩
  have HLV := hid hLV
  obtain ⟨SM, hSM⟩ : ∃ SM, stepM M st at_ new = SM := ⟨_, rfl⟩
  rw [hSM]
  have HSM := hid hSM
  clear h hok hn hm hF hmn hK hs1 hs2 hs3 hs4 hb1 hb2 hb3 hb4 hl1 hl2 hl3 hl4 hLV hSM
  go_enter Tryz.func57, Tryz.ntmps57
  go_upto_region 1 with (fail)
  go_cut [26] (fun t26 W => t26 = .bool (!LV) ∧ W = V4)
  case first =>
    by_cases h0 : at_ < 0
    · have t0 : decide (at_ < 0) = true := decide_eq_true h0
      have HE : Hid (LV = false) := hid (by rw [← HLV.out]; unfold liveAt; rw [decide_eq_false (by omega)]; rfl)
      go_wp2
      go_meet
      exact ⟨by rw [HE.out]; rfl, rfl⟩
    · have t0 : decide (at_ < 0) = false := decide_eq_false h0
      obtain ⟨k, rfl⟩ : ∃ k : Nat, at_ = (k : Int) := ⟨at_.toNat, by omega⟩
      by_cases h1 : n ≤ k
      · have t1 : decide (((n : Nat) : Int) ≤ ((k : Nat) : Int)) = true := decide_eq_true (by omega)
        have HE : Hid (LV = false) := hid (by
          rw [← HLV.out]; unfold liveAt
          rw [Int.toNat_natCast, List.getElem?_eq_none (by rw [HMM.out]; exact h1)]; simp)
        go_wp2
        go_meet
        exact ⟨by rw [HE.out]; rfl, rfl⟩
      · have t1 : decide (((n : Nat) : Int) ≤ ((k : Nat) : Int)) = false := decide_eq_false (by omega)
        obtain ⟨b, hb⟩ : ∃ b, M.L[k]? = some b := ⟨_, List.getElem?_eq_getElem (by rw [HMM.out]; omega)⟩
        have hkn : k < n := by omega
        obtain ⟨bb, oo, rfl, hld⟩ := HLD.out k b hkn hb
        have hc := hld V4 HB4.out
        have HE : Hid (LV = b) := hid (by rw [← HLV.out]; unfold liveAt; rw [Int.toNat_natCast, hb, decide_eq_true (by omega)]; rfl)
        clear hb hld
        go_wp2
        go_meet
        exact ⟨by rw [HE.out], rfl⟩
  case rest =>
    obtain ⟨rfl, hwc8⟩ := hcut
    subst hwc8
    obtain ⟨V9, hV9⟩ : ∃ V9, V9 = wc := ⟨_, rfl⟩
    subst hV9
    cases LV
    case' false =>
      have HSE : Hid (SM = (⟨M.W, M.L, true⟩, 0, false)) := hid (by rw [← HSM.out]; unfold stepM; rw [HLV.out]; rfl)
      have f2 := free_laid (i := 2) HX.out
      have hl10 := set_laid (i := 2) HX.out (.bool true)
      obtain ⟨V10, hV10⟩ : ∃ V10, V9.setCell ⟨X, 2, none⟩ (.bool true) = V10 := ⟨_, rfl⟩
      rw [hV10] at hl10
      have HB10 : Hid (Below V.heap.size V V10) := hid (by rw [← hV10]; exact HB4.out.setCell (p := ⟨X, 2, none⟩) HXV.out _)
      have HZ10 : Hid (V10.heap[Z]? = some (.cells #[.slice none 0 0, .slice none 0 0, .bool false] 25 (0, 0))) := hid (by rw [← hV10]; exact other_laid HZ.out HZX.out _)
      have HG10 : Hid (V10.heap[G]? = some (.cells #[.int .u64 0, .bool false] 111 (0, 0))) := hid (by rw [← hV10]; exact other_laid HG.out HGX.out _)
      have HX10 := hid hl10
      have HV10 := hid hV10
      clear hV10 hl10
      go_upto_region 3 with (fail)
      rw [HV10.out]
      obtain ⟨x0, x1, x2⟩ := cells3 HX10.out
      obtain ⟨z0, z1, z2⟩ := cells3 HZ10.out
      have zf0 := free_laid (i := 0) HZ10.out
      have zf1 := free_laid (i := 1) HZ10.out
      have zf2 := free_laid (i := 2) HZ10.out
      have g0 := cell_laid (i := 0) HG10.out rfl
      have g1 := cell_laid (i := 1) HG10.out rfl
      have gf0 := free_laid (i := 0) HG10.out
      have gf1 := free_laid (i := 1) HG10.out
      have hne1 : G ≠ Z := HGZ.out
      have hne2 : Z ≠ G := Ne.symm HGZ.out
      obtain ⟨V12, hV12, hz12, hg12, hb12, -⟩ := put_both HZ10.out HG10.out HGZ.out (.slice wa n wc_) (.slice la n lc) (.bool true) (.int .u64 0) (.bool false)
      have HZ12 := hid hz12
      have HG12 := hid hg12
      have HB12 := hid (hb12 _ _ HZV.out HGV.out HB10.out)
      have HV12 := hid hV12
      clear hV12 hz12 hg12 hb12 f2 a0 a1 a2 a3
      go_wp2
      rw [← HV12.out]
      refine bodyPost_ret (refstep_result HZ12.out HG12.out rfl rfl) rfl ?_
      rw [HSE.out]
      refine ⟨wa, wc_, la, lc, ?_, ⟨H.out.w.grow HB12.out, H.out.l.grow HB12.out⟩, HB12.out, .inl rfl, .inl rfl⟩
      unfold memV
      simp only [HN.out, HMM.out]
      rfl
    case' true =>
      obtain ⟨k, hk0, hkL⟩ : ∃ k : Nat, at_ = (k : Int) ∧ M.L[k]? = some true := by
        have := HLV.out
        unfold liveAt at this
        simp only [Bool.and_eq_true, decide_eq_true_eq] at this
        refine ⟨at_.toNat, by omega, ?_⟩
        cases hq : M.L[at_.toNat]? with
        | none => rw [hq] at this; simp at this
        | some b => rw [hq] at this; simpa using this.2
      subst hk0
      have hkn : k < n := by
        have := (List.getElem?_eq_some_iff.1 hkL).1
        rw [HMM.out] at this; exact this
      obtain ⟨x, hx⟩ : ∃ x, M.W[k]? = some x := ⟨_, List.getElem?_eq_getElem (by rw [HN.out]; exact hkn)⟩
      obtain ⟨bb, oo, hwa, hwd⟩ := HWD.out k x hkn hx
      subst hwa
      have hc := hwd V9 HB4.out
      have HSE : Hid (SM = (if st = true then ⟨M.W.set k new, M.L, M.F⟩ else M, x, true)) := hid (by
        rw [← HSM.out]; unfold stepM; rw [HLV.out, Int.toNat_natCast]
        simp [List.getD_eq_getElem?_getD, hx])
      have HKL := hid hkL
      clear hwd hx hkL
      obtain ⟨z0, z1, z2⟩ := cells3 HZ.out
      have zf0 := free_laid (i := 0) HZ.out
      have zf1 := free_laid (i := 1) HZ.out
      have zf2 := free_laid (i := 2) HZ.out
      have g0 := cell_laid (i := 0) HG.out rfl
      have g1 := cell_laid (i := 1) HG.out rfl
      have gf0 := free_laid (i := 0) HG.out
      have gf1 := free_laid (i := 1) HG.out
      have hne1 : G ≠ Z := HGZ.out
      have hne2 : Z ≠ G := Ne.symm HGZ.out
      cases st
      case' false =>
        have hK1 : K = 1 := HK.out
        subst hK1
        obtain ⟨V12, hV12, hz12, hg12, hb12, -⟩ := put_both HZ.out HG.out HGZ.out (.slice (some ⟨bb, oo, none⟩) n wc_) (.slice la n lc) (.bool F) (.int .u64 ((x : Nat) : Int)) (.bool true)
        have HZ12 := hid hz12
        have HG12 := hid hg12
        have HB12 := hid (hb12 _ _ HZV.out HGV.out HB4.out)
        have HV12 := hid hV12
        clear hV12 hz12 hg12 hb12
        go_wp2
        rw [← HV12.out]
        refine bodyPost_ret (refstep_result HZ12.out HG12.out rfl rfl) rfl ?_
        rw [HSE.out, if_neg (by decide)]
        refine ⟨_, wc_, la, lc, ?_, ⟨H.out.w.grow HB12.out, H.out.l.grow HB12.out⟩, HB12.out, .inl rfl, .inl rfl⟩
        unfold memV
        simp only [HN.out, HMM.out, HF.out]
      case' true =>
        have hK1 : K = 2 := HK.out
        subst hK1
        have HWI := hid (RefWith_any M k new (some ⟨bb, oo, none⟩) la wc_ lc V9 HM.out (HMM.out.trans HN.out.symm) (by rw [HN.out]; omega) (by rw [HN.out]; exact hkn))
        unfold memV at HWI
        rw [HN.out, HMM.out, HF.out] at HWI
        clear z0 z1 z2 zf0 zf1 zf2 g0 g1 gf0 gf1
        go_wp2_with fail
        refine HWI.out.mono ?_
        rintro e V11 ⟨wa', wc', la', lc', rfl, hO11, hb11⟩
        have hZ11 := keep_laid HZ.out hb11
        have hG11 := keep_laid HG.out hb11
        unfold memV
        obtain ⟨V12, hV12, hz12, hg12, hb12, hm12⟩ := put_both hZ11 hG11 HGZ.out (.slice wa' n wc') (.slice la' n lc') (.bool F) (.int .u64 ((x : Nat) : Int)) (.bool true)
        simp only [List.length_set, HN.out, HMM.out]
        obtain ⟨z0, z1, z2⟩ := cells3 hZ11
        have zf0 := free_laid (i := 0) hZ11
        have zf1 := free_laid (i := 1) hZ11
        have zf2 := free_laid (i := 2) hZ11
        have g0 := cell_laid (i := 0) hG11 rfl
        have g1 := cell_laid (i := 1) hG11 rfl
        have gf0 := free_laid (i := 0) hG11
        have gf1 := free_laid (i := 1) hG11
        have HZ12 := hid hz12
        have HG12 := hid hg12
        have HB12 := hid (hb12 _ _ HZV.out HGV.out (step HB4.out hb11))
        have HM12 := hid (hm12 _ _ _ _ _ _ hO11).memL
        have HKP : Hid (keptA V (some ⟨bb, oo, none⟩) wa' ∧ keptA V la la') := hid (by
          have hVV : V.heap.size ≤ V9.heap.size := HB4.out.size
          refine ⟨.inr fun b off e => ?_, .inr fun b off e => ?_⟩
          · subst e; exact Nat.le_trans hVV (hO11.w.lt b rfl).1
          · subst e; exact Nat.le_trans hVV (hO11.l.lt b rfl).1)
        have HV12 := hid hV12
        clear hV12 hz12 hg12 hb12 hm12 hO11 hZ11 hG11 hb11
        go_wp2
        rw [← HV12.out]
        refine bodyPost_ret (refstep_result HZ12.out HG12.out rfl rfl) rfl ?_
        have hSE := HSE.out
        simp only [if_true, HF.out] at hSE
        rw [hSE]
        have hLs : M.L.set k true = M.L := by
          refine List.ext_getElem? fun j => ?_
          rw [List.getElem?_set]
          split
          · next e => subst e; rw [HKL.out]; simp [(List.getElem?_eq_some_iff.1 HKL.out).1]
          · rfl
        have hm := HM12.out
        rw [hLs] at hm
        refine ⟨wa', wc', la', lc', ?_, hm, HB12.out, HKP.out.1, HKP.out.2⟩
        unfold memV
        simp only [List.length_set, HN.out, HMM.out]
end Go.Proofs.YtahicokokfcieaaGreatDoor
