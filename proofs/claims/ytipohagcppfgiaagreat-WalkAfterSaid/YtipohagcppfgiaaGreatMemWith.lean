/- The document's memories: with. -/
import Derived.Test.YtipohagcppfgiaaGreatMemRef
import Derived.Test.YtipohagcppfgiaaGreatRegion4
namespace Go.Proofs.YtipohagcppfgiaaGreat
open Go.RowKit
open Go.Proofs
set_option linter.unusedVariables false
/-- Where the building of a memory is. -/
structure WK (B X Y Z : Nat) (wa la : Option Addr) (n wc lc : Nat) (F : Bool) (u1 u2 v1 : Value) (k1 : Nat) (A1 : List Nat) (v2 : Value) (k2 : Nat) (A2 : List Bool) (w V : World) : Prop where
 bx : V.heap[X]? = some (.cells #[.slice wa n wc, .slice la n lc, .bool F] 25 (0, 0))
 bY : V.heap[Y]? = some (.cells #[u1, u2, .bool F] 25 (0, 0))
 bz : V.heap[Z]? = some (.cells #[.slice none 0 0, .slice none 0 0, .bool false] 25 (0, 0))
 rw_ : V.ownsRow B 26 1 v1 k1 (wcells A1)
 rl : V.ownsRow B 4 1 v2 k2 (bcells A2)
 lo : B ≤ Y
 zn : Z ≠ Y
 xn : X ≠ Y
 below : Below B w V
section
variable {B X Y Z : Nat} {wa la : Option Addr} {n wc lc : Nat} {F : Bool} {u1 u2 v1 : Value} {k1 : Nat} {A1 : List Nat} {v2 : Value} {k2 : Nat} {A2 : List Bool} {w V V' : World}
theorem WK.sz (h : WK B X Y Z wa la n wc lc F u1 u2 v1 k1 A1 v2 k2 A2 w V) : B ≤ V.heap.size := Nat.le_of_lt (Nat.lt_of_le_of_lt h.lo (llD h.bY))
theorem WK.grow (h : WK B X Y Z wa la n wc lc F u1 u2 v1 k1 A1 v2 k2 A2 w V) (hb : Below V.heap.size V V') : WK B X Y Z wa la n wc lc F u1 u2 v1 k1 A1 v2 k2 A2 w V' :=
 ⟨klD h.bx hb, klD h.bY hb, klD h.bz hb, ogr h.rw_ hb, ogr h.rl hb, h.lo, h.zn, h.xn, h.below.trans (hb.mono h.sz)⟩
theorem WK.appW {v1' : Value} {x : Nat} (h : WK B X Y Z wa la n wc lc F u1 u2 v1 k1 A1 v2 k2 A2 w V) (ho : V'.ownsRow B 26 1 v1' (k1 + 1) (wcells A1 ++ wcells [x])) (hg : V.grownBy V' v1.ownBlock) :
  WK B X Y Z wa la n wc lc F u1 u2 v1' (k1 + 1) (A1 ++ [x]) v2 k2 A2 w V' := by
 have hm : ∀ (b : Nat) (o : Obj), V.heap[b]? = some o → (∀ cur, o ≠ .cells cur 26 (0, 0)) → V'.heap[b]? = some o := fun b o hb hne => kgr hb hg fun e => by
  obtain ⟨cur, hc⟩ := own_type h.rw_ _ e
  rw [hb] at hc
  exact hne cur (Option.some.inj hc)
 have hM : ∀ (b : Nat) (vs : Array Value), V.heap[b]? = some (.cells vs 25 (0, 0)) → V'.heap[b]? = some (.cells vs 25 (0, 0)) := fun b vs hb => hm b _ hb (by intro cur e; cases e)
 refine ⟨hM _ _ h.bx, hM _ _ h.bY, hM _ _ h.bz, by rw [wcells_app]; exact ho, okp h.rl (fun k o hk hh => hm k o hh (by
  obtain ⟨cur, hc⟩ := own_type h.rl k hk
  rw [hh] at hc
  obtain rfl := Option.some.inj hc
  intro cur e; cases e)), h.lo, h.zn, h.xn, h.below.trans (own_below h.rw_ hg h.sz)⟩
theorem WK.appL {v2' : Value} {x : Bool} (h : WK B X Y Z wa la n wc lc F u1 u2 v1 k1 A1 v2 k2 A2 w V) (ho : V'.ownsRow B 4 1 v2' (k2 + 1) (bcells A2 ++ bcells [x])) (hg : V.grownBy V' v2.ownBlock) :
  WK B X Y Z wa la n wc lc F u1 u2 v1 k1 A1 v2' (k2 + 1) (A2 ++ [x]) w V' := by
 have hm : ∀ (b : Nat) (o : Obj), V.heap[b]? = some o → (∀ cur, o ≠ .cells cur 4 (0, 0)) → V'.heap[b]? = some o := fun b o hb hne => kgr hb hg fun e => by
  obtain ⟨cur, hc⟩ := own_type h.rl _ e
  rw [hb] at hc
  exact hne cur (Option.some.inj hc)
 have hM : ∀ (b : Nat) (vs : Array Value), V.heap[b]? = some (.cells vs 25 (0, 0)) → V'.heap[b]? = some (.cells vs 25 (0, 0)) := fun b vs hb => hm b _ hb (by intro cur e; cases e)
 refine ⟨hM _ _ h.bx, hM _ _ h.bY, hM _ _ h.bz, okp h.rw_ (fun k o hk hh => hm k o hh (by
  obtain ⟨cur, hc⟩ := own_type h.rw_ k hk
  rw [hh] at hc
  obtain rfl := Option.some.inj hc
  intro cur e; cases e)), by rw [show bcells (A2 ++ [x]) = bcells A2 ++ bcells [x] by simp [bcells]]; exact ho, h.lo, h.zn, h.xn, h.below.trans (own_below h.rl hg h.sz)⟩
theorem WK.st (h : WK B X Y Z wa la n wc lc F u1 u2 v1 k1 A1 v2 k2 A2 w V) (e1 e2 : Value) : WK B X Y Z wa la n wc lc F e1 e2 v1 k1 A1 v2 k2 A2 w ((V.setCell ⟨Y, 0, none⟩ e1).setCell ⟨Y, 1, none⟩ e2) := by
 have s0 := slD (i := 0) h.bY e1
 refine ⟨olD (olD h.bx h.xn _) h.xn _, slD (i := 1) s0 e2, olD (olD h.bz h.zn _) h.zn _, okp h.rw_ (fun k o hk hh => ?_), okp h.rl (fun k o hk hh => ?_), h.lo, h.zn, h.xn, (h.below.setCell h.lo _).setCell h.lo _⟩
 ·obtain ⟨cur', hc⟩ := own_type h.rw_ k hk
  have := tyN hc h.bY (by decide)
  exact olD (olD hh this _) this _
 ·obtain ⟨cur', hc⟩ := own_type h.rl k hk
  have := tyN hc h.bY (by decide)
  exact olD (olD hh this _) this _
end
/-- What a round of the building reads. -/
structure RW (X Y b o b' o' : Nat) (u1 u2 q1 q2 : Value) (x : Nat) (c : Bool) where
 v : World
 x0 : v.cell? ⟨X, 0, none⟩ = some u1
 x1 : v.cell? ⟨X, 1, none⟩ = some u2
 y0 : v.cell? ⟨Y, 0, none⟩ = some q1
 y1 : v.cell? ⟨Y, 1, none⟩ = some q2
 d1 : v.cell? ⟨b, o, none⟩ = some (.int .u64 x)
 d2 : v.cell? ⟨b', o', none⟩ = some (.bool c)
theorem with_result {W : World} {b : Nat} {v0 v1 v2 : Value} {tmps : Array Value} (h : W.heap[b]? = some (.cells #[v0, v1, v2] 25 (0, 0))) (hp : tmps[8]?.getD undef = .pointer (some ⟨b, 0, none⟩)) :
  (results Tryz.f71 tmps).run Tryz.prog W = .ok (.agg #[v0, v1, v2]) W := by
 have h0 := clD (i := 0) (v := v0) h rfl
 have h1 := clD (i := 1) (v := v1) h rfl
 have h2 := clD (i := 2) (v := v2) h rfl
 simp [results, Tryz.results71, go_sem, hp, h0, h1, h2]
set_option maxRecDepth 100000 in
set_option maxHeartbeats 4000000 in
theorem RefWith_any (M : Mem) (at_ new : Nat) (wa la : Option Addr) (wc lc : Nat) (V : World) (h : MemL V wa wc la lc M) (hlen : M.L.length = M.W.length) (hW : M.W.length ≤ 5000) (hat : at_ < M.W.length) :
  Calls Tryz.prog 71 #[memV wa wc la lc M, .int .i64 at_, .int .u64 new, .bool true] V (GivesM ⟨M.W.set at_ new, M.L.set at_ true, M.F⟩ V) := by
 obtain ⟨n, hn⟩ := nm (M.W.length)
 obtain ⟨F, hF⟩ := nm (M.F)
 have hwl := h.w
 have hll := h.l
 unfold memV
 rw [hlen, hn] at hll ⊢
 rw [hn] at hwl hW hat
 rw [hF]
 obtain ⟨V0, hV0, hb0, hs0, hl0⟩ := laid V #[.slice wa n wc, .slice la n lc, .bool F] 25
 obtain ⟨V1, hV1, hb1, hs1, hl1⟩ := laid V0 #[.slice none 0 0, .slice none 0 0, .bool false] 25
 obtain ⟨V2, hV2, hb2, hs2, hl2⟩ := laid V1 #[.slice none 0 0, .slice none 0 0, .bool false] 25
 obtain ⟨X, hX⟩ := nm (V.heap.size)
 obtain ⟨Z, hZ⟩ := nm (V0.heap.size)
 obtain ⟨Y, hY⟩ := nm (V1.heap.size)
 have hBB := (step (step hb0 hb1) hb2)
 have hXZ : X < Z := by omega
 have hZY : Z < Y := by omega
 rw [hX] at hl0 hBB
 rw [hZ] at hl1
 rw [hY] at hl2
 have kx := klD hl0 (step hb1 hb2)
 have kz := klD hl1 hb2
 obtain ⟨W', hW'⟩ := nm (M.W.set at_ new)
 obtain ⟨L', hL'⟩ := nm (M.L.set at_ true)
 have hWl : W'.length = n := by rw [← hW', List.length_set, hn]
 have hLl : L'.length = n := by rw [← hL', List.length_set, hlen, hn]
 obtain ⟨V3, hV3, hy3, hk3, hb3, -⟩ := put_mem hl2 (.slice none 0 0) (.slice none 0 0) (.bool F)
 have HJ0 : Hid (WK X X Y Z wa la n wc lc F (.slice none 0 0) (.slice none 0 0) (.slice none 0 0) 0 (W'.take 0) (.slice none 0 0) 0 (L'.take 0) V V3) := hid ⟨hk3 _ _ (by omega) kx, hy3, hk3 _ _ (by omega) kz, World.ownsRow_nil _ _ _ _, World.ownsRow_nil _ _ _ _, by omega, by omega, by omega, hb3 _ _ (by omega) hBB⟩
 have HV3 := hid hV3
 have x0 := clD (i := 0) kx rfl
 have x2 := clD (i := 2) kx rfl
 have f0 := flD (i := 0) hl2
 have f1 := flD (i := 1) hl2
 have f2 := flD (i := 2) hl2
 obtain ⟨c0, c1, c2⟩ := cells3 hl2
 have hne1 : X ≠ Y := by omega
 have hne2 : Y ≠ X := by omega
 have y01 : V1.cell? ⟨X, 2, none⟩ = some (.bool F) := clD (klD hl0 hb1) rfl
 have hwlen := hwl.len
 have hllen := hll.len
 have HWD : Hid (∀ k x, k < n → M.W[k]? = some x → ∃ b off, wa = some ⟨b, off, none⟩ ∧ ∀ w', Below X V w' → w'.cell? ⟨b, off + k, none⟩ = some (.int .u64 ((x : Nat) : Int))) := hid (fun k x hk hx => by
  obtain ⟨b, off, e, -, hc⟩ := hwl.at hk (wcell_at hx)
  exact ⟨b, off, e, fun w' hb => hc w' (by rw [hX]; exact hb)⟩)
 have HLD : Hid (∀ k x, k < n → M.L[k]? = some x → ∃ b off, la = some ⟨b, off, none⟩ ∧ ∀ w', Below X V w' → w'.cell? ⟨b, off + k, none⟩ = some (.bool x)) := hid (fun k x hk hx => by
  obtain ⟨b, off, e, -, hc⟩ := hll.at hk (bcell_at hx)
  exact ⟨b, off, e, fun w' hb => hc w' (by rw [hX]; exact hb)⟩)
 have HN := hid hn
 have HM := hid (hlen.trans hn)
 have HW' := hid hW'
 have HL' := hid hL'
 have HWl := hid hWl
 have HLl := hid hLl
 have HX := hid hX
 have HXZ : Hid (X ≤ Z) := hid (by omega)
 clear h hwl hll hlen hn hF hb0 hs0 hl0 hb1 hs1 hl1 hb2 hs2 hl2 hBB kx kz hV3 hy3 hk3 hb3 hXZ hZY hW' hL' hWl hLl
 go_enter Tryz.func71, Tryz.ntmps71
 go_wp2
 go_loopg [17] n (fun g i wr => ∃ (k : Nat) (v1 v2 : Value), g + k = n ∧ i = .int .i64 (k : Nat) ∧ Hid (WK X X Y Z wa la n wc lc F v1 v2 v1 k (W'.take k) v2 k (L'.take k) V wr))
 case atStart => exact ⟨0, _, _, rfl, rfl, HV3.out ▸ HJ0⟩
 case round =>
  obtain ⟨k, v1, v2, hk, rfl, hJ⟩ := hrel
  have HK := hid hk
  clear hk
  obtain ⟨a1, q1, rfl, -⟩ := Leads.of_own hJ.out.rw_
  obtain ⟨a2, q2, rfl, -⟩ := Leads.of_own hJ.out.rl
  by_cases hlt : k < n
  ·obtain ⟨x, hxk⟩ : ∃ x, M.W[k]? = some x := ⟨_, List.getElem?_eq_getElem (by rw [HN.out]; exact hlt)⟩
   obtain ⟨c, hck⟩ : ∃ x, M.L[k]? = some x := ⟨_, List.getElem?_eq_getElem (by rw [HM.out]; exact hlt)⟩
   obtain ⟨b, o, rfl, hwd⟩ := HWD.out k x hlt hxk
   obtain ⟨b', o', rfl, hld⟩ := HLD.out k c hlt hck
   have HCL : Hid (∀ (v1 : Value) (k1 : Nat) (A1 : List Nat) (v2 : Value) (k2 : Nat) (A2 : List Bool) (W : World), WK X X Y Z (some ⟨b, o, none⟩) (some ⟨b', o', none⟩) n wc lc F (.slice a1 k q1) (.slice a2 k q2) v1 k1 A1 v2 k2 A2 V W → ∃ z : RW X Y b (o + k) b' (o' + k) (.slice (some ⟨b, o, none⟩) n wc) (.slice (some ⟨b', o', none⟩) n lc) (.slice a1 k q1) (.slice a2 k q2) x c, W = z.v) :=
    hid (fun v1 k1 A1 v2 k2 A2 W hw => ⟨⟨W, clD hw.bx rfl, clD hw.bx rfl, clD hw.bY rfl, clD hw.bY rfl, hwd W hw.below, hld W hw.below⟩, rfl⟩)
   have KD := hid (hJ.out.grow (Below.refl _ _).drew)
   have hdr := HCL.out _ _ _ _ _ _ _ KD.out
   haveI : Nonempty (RW X Y b (o + k) b' (o' + k) (.slice (some ⟨b, o, none⟩) n wc) (.slice (some ⟨b', o', none⟩) n lc) (.slice a1 k q1) (.slice a2 k q2) x c) := hdr.elim fun z _ => ⟨z⟩
   have e0 : ∀ z : RW X Y b (o + k) b' (o' + k) (.slice (some ⟨b, o, none⟩) n wc) (.slice (some ⟨b', o', none⟩) n lc) (.slice a1 k q1) (.slice a2 k q2) x c, z.v.cell? ⟨X, 0, none⟩ = some (.slice (some ⟨b, o, none⟩) n wc) := fun z => z.x0
   have e1 : ∀ z : RW X Y b (o + k) b' (o' + k) (.slice (some ⟨b, o, none⟩) n wc) (.slice (some ⟨b', o', none⟩) n lc) (.slice a1 k q1) (.slice a2 k q2) x c, z.v.cell? ⟨X, 1, none⟩ = some (.slice (some ⟨b', o', none⟩) n lc) := fun z => z.x1
   have e2 : ∀ z : RW X Y b (o + k) b' (o' + k) (.slice (some ⟨b, o, none⟩) n wc) (.slice (some ⟨b', o', none⟩) n lc) (.slice a1 k q1) (.slice a2 k q2) x c, z.v.cell? ⟨Y, 0, none⟩ = some (.slice a1 k q1) := fun z => z.y0
   have e3 : ∀ z : RW X Y b (o + k) b' (o' + k) (.slice (some ⟨b, o, none⟩) n wc) (.slice (some ⟨b', o', none⟩) n lc) (.slice a1 k q1) (.slice a2 k q2) x c, z.v.cell? ⟨Y, 1, none⟩ = some (.slice a2 k q2) := fun z => z.y1
   have e4 : ∀ z : RW X Y b (o + k) b' (o' + k) (.slice (some ⟨b, o, none⟩) n wc) (.slice (some ⟨b', o', none⟩) n lc) (.slice a1 k q1) (.slice a2 k q2) x c, z.v.cell? ⟨b, o + k, none⟩ = some (.int .u64 x) := fun z => z.d1
   have e5 : ∀ z : RW X Y b (o + k) b' (o' + k) (.slice (some ⟨b, o, none⟩) n wc) (.slice (some ⟨b', o', none⟩) n lc) (.slice a1 k q1) (.slice a2 k q2) x c, z.v.cell? ⟨b', o' + k, none⟩ = some (.bool c) := fun z => z.d2
   by_cases he : k = at_
   ·subst he
    have HTW : Hid (W'.take k ++ [new] = W'.take (k + 1)) := hid (by rw [List.take_add_one, ← HW'.out, List.getElem?_set_self (by rw [HN.out]; exact hlt)]; rfl)
    have HTL : Hid (L'.take k ++ [true] = L'.take (k + 1)) := hid (by rw [List.take_add_one, ← HL'.out, List.getElem?_set_self (by rw [HM.out]; exact hlt)]; rfl)
    clear hxk hck hwd hld hJ
    go_upto_region 6 with (fail)
    refine rgm3 (fun W => ∃ z : RW X Y b (o + k) b' (o' + k) (.slice (some ⟨b, o, none⟩) n wc) (.slice (some ⟨b', o', none⟩) n lc) (.slice a1 k q1) (.slice a2 k q2) x c, W = z.v) 11 (.q 0 (.q 1 (.q 2 (.q 5 (.q 6 (.q 7 (.h2 3 (.h2 4 (.q 10 (.h 8 (.h 9 (.done)))) 8 (.h 4 (.q 10 (.h 9 (.done))))) 8 (.h 3 (.h 4 (.q 10 (.h 9 (.done)))))))))))) (by kernel_rfl) (by kernel_rfl) hdr ?_
    clear hdr
    repeat (refine m3q rfl rfl ?_; go_big_quiet_step (fail); refine wpQuiet_nil ?_)
    obtain ⟨wD, hwD⟩ := nm (wr.drew)
    rw [hwD] at KD ⊢
    clear hwD e0 e1 e2 e3 e4 e5
    refine wpMix3_h2 ?_ ?_
    ·refine m3h rfl fun R' hR' hO => ?_
     obtain ⟨w1_, hw1_, hbw1_, hsw1_, hlw1_⟩ := laid wD #[.int .u64 new] 26
     obtain ⟨Gw1_, hGw1_⟩ := nm (wD.heap.size)
     rw [hGw1_] at hlw1_ hsw1_
     have K1_ := hid (KD.out.grow hbw1_)
     have HGw1_ := hid hlw1_
     have HBw1_ := hid hbw1_
     clear hbw1_ hsw1_ hlw1_
     go_wp2
     refine hR' _ _ (HCL.out _ _ _ _ _ _ _ K1_.out) ?_
     clear hR' hO R' hGw1_ hw1_
     repeat (refine m3q rfl rfl ?_; go_big_quiet_step (fail); refine wpQuiet_nil ?_)
     refine wpMix3_h2 ?_ ?_
     ·refine m3h rfl fun R' hR' hO => ?_
      refine waM elemWords rfl (.tmp 24) (.tmp 26) rfl X (.slice a1 k q1) k (wcells (W'.take k)) rfl K1_.out.rw_ ⟨Gw1_, 0, none⟩ 1 1 (wcells [new]) rfl rfl ?_ ?_ ?_ ?_ ?_
      ·intro j u hu
       refine cell_add ?_
       rw [Nat.zero_add]
       exact clD HGw1_.out (by simpa [wcells] using hu)
      ·intro u hu
       obtain ⟨y, -, rfl⟩ := List.mem_map.1 hu
       rfl
      ·omega
      ·exact K1_.out.sz
      intro vw2_ w2_ ho hg hm
      have K2_ := hid (K1_.out.appW ho hg)
      obtain ⟨aw2_, cw2_, rfl, -⟩ := Leads.of_own ho
      clear ho hg hm
      go_wp2
      refine hR' _ _ (HCL.out _ _ _ _ _ _ _ K2_.out) ?_
      clear hR' hO R'
      repeat (refine m3q rfl rfl ?_; go_big_quiet_step (fail); refine wpQuiet_nil ?_)
      refine m3h rfl fun R' hR' hO => ?_
      obtain ⟨w3_, hw3_, hbw3_, hsw3_, hlw3_⟩ := laid w2_ #[.bool true] 4
      obtain ⟨Gw3_, hGw3_⟩ := nm (w2_.heap.size)
      rw [hGw3_] at hlw3_ hsw3_
      have K3_ := hid (K2_.out.grow hbw3_)
      have HGw3_ := hid hlw3_
      have HBw3_ := hid hbw3_
      clear hbw3_ hsw3_ hlw3_
      go_wp2
      refine hR' _ _ (HCL.out _ _ _ _ _ _ _ K3_.out) ?_
      clear hR' hO R' hGw3_ hw3_
      repeat (refine m3q rfl rfl ?_; go_big_quiet_step (fail); refine wpQuiet_nil ?_)
      refine m3h rfl fun R' hR' hO => ?_
      refine waM elemBools rfl (.tmp 29) (.tmp 31) rfl X (.slice a2 k q2) k (bcells (L'.take k)) rfl K3_.out.rl ⟨Gw3_, 0, none⟩ 1 1 (bcells [true]) rfl rfl ?_ ?_ ?_ ?_ ?_
      ·intro j u hu
       refine cell_add ?_
       rw [Nat.zero_add]
       exact clD HGw3_.out (by simpa [bcells] using hu)
      ·intro u hu
       obtain ⟨y, -, rfl⟩ := List.mem_map.1 hu
       rfl
      ·omega
      ·exact K3_.out.sz
      intro vw4_ w4_ ho hg hm
      have K4_ := hid (K3_.out.appL ho hg)
      obtain ⟨aw4_, cw4_, rfl, -⟩ := Leads.of_own ho
      clear ho hg hm
      go_wp2
      refine hR' _ _ (HCL.out _ _ _ _ _ _ _ K4_.out) ?_
      clear hR' hO R'
      repeat (refine m3q rfl rfl ?_; go_big_quiet_step (fail); refine wpQuiet_nil ?_)
      refine m3d ?_
      simp only [List.drop_succ_cons, List.drop_zero]
      have KF := hid (K4_.out.st (.slice aw2_ (k + 1) cw2_) (.slice aw4_ (k + 1) cw4_))
      rw [HTW.out, HTL.out] at KF
      have f0 := flD (i := 0) K4_.out.bY
      have f1 := flD (i := 1) K4_.out.bY
      have c0 := clD (i := 0) K4_.out.bY rfl
      have c1 := clD (i := 1) K4_.out.bY rfl
      go_wp2
      go_roundg (gk - 1)
      case measure => have := HK.out; omega
      case rel => exact ⟨k + 1, _, _, by have := HK.out; omega, by go_num, KF⟩
     ·refine m3h rfl fun R' hR' hO => ?_
      obtain ⟨w5_, hw5_, hbw5_, hsw5_, hlw5_⟩ := laid w1_ #[.bool true] 4
      obtain ⟨Gw5_, hGw5_⟩ := nm (w1_.heap.size)
      rw [hGw5_] at hlw5_ hsw5_
      have K5_ := hid (K1_.out.grow hbw5_)
      have HGw5_ := hid hlw5_
      have HBw5_ := hid hbw5_
      clear hbw5_ hsw5_ hlw5_
      go_wp2
      refine hR' _ _ (HCL.out _ _ _ _ _ _ _ K5_.out) ?_
      clear hR' hO R' hGw5_ hw5_
      have HKW5_ := hid (klD HGw1_.out HBw5_.out)
      repeat (refine m3q rfl rfl ?_; go_big_quiet_step (fail); refine wpQuiet_nil ?_)
      refine m3h rfl fun R' hR' hO => ?_
      refine waM elemWords rfl (.tmp 24) (.tmp 26) rfl X (.slice a1 k q1) k (wcells (W'.take k)) rfl K5_.out.rw_ ⟨Gw1_, 0, none⟩ 1 1 (wcells [new]) rfl rfl ?_ ?_ ?_ ?_ ?_
      ·intro j u hu
       refine cell_add ?_
       rw [Nat.zero_add]
       exact clD HKW5_.out (by simpa [wcells] using hu)
      ·intro u hu
       obtain ⟨y, -, rfl⟩ := List.mem_map.1 hu
       rfl
      ·omega
      ·exact K5_.out.sz
      intro vw6_ w6_ ho hg hm
      have K6_ := hid (K5_.out.appW ho hg)
      obtain ⟨aw6_, cw6_, rfl, -⟩ := Leads.of_own ho
      have HKL6_ := hid (kgr HGw5_.out hg (fun e => by obtain ⟨cur, hc⟩ := own_type K5_.out.rw_ _ e; exact tyN hc HGw5_.out (by decide) rfl))
      clear ho hg hm
      go_wp2
      refine hR' _ _ (HCL.out _ _ _ _ _ _ _ K6_.out) ?_
      clear hR' hO R'
      repeat (refine m3q rfl rfl ?_; go_big_quiet_step (fail); refine wpQuiet_nil ?_)
      refine m3h rfl fun R' hR' hO => ?_
      refine waM elemBools rfl (.tmp 29) (.tmp 31) rfl X (.slice a2 k q2) k (bcells (L'.take k)) rfl K6_.out.rl ⟨Gw5_, 0, none⟩ 1 1 (bcells [true]) rfl rfl ?_ ?_ ?_ ?_ ?_
      ·intro j u hu
       refine cell_add ?_
       rw [Nat.zero_add]
       exact clD HKL6_.out (by simpa [bcells] using hu)
      ·intro u hu
       obtain ⟨y, -, rfl⟩ := List.mem_map.1 hu
       rfl
      ·omega
      ·exact K6_.out.sz
      intro vw7_ w7_ ho hg hm
      have K7_ := hid (K6_.out.appL ho hg)
      obtain ⟨aw7_, cw7_, rfl, -⟩ := Leads.of_own ho
      clear ho hg hm
      go_wp2
      refine hR' _ _ (HCL.out _ _ _ _ _ _ _ K7_.out) ?_
      clear hR' hO R'
      repeat (refine m3q rfl rfl ?_; go_big_quiet_step (fail); refine wpQuiet_nil ?_)
      refine m3d ?_
      simp only [List.drop_succ_cons, List.drop_zero]
      have KF := hid (K7_.out.st (.slice aw6_ (k + 1) cw6_) (.slice aw7_ (k + 1) cw7_))
      rw [HTW.out, HTL.out] at KF
      have f0 := flD (i := 0) K7_.out.bY
      have f1 := flD (i := 1) K7_.out.bY
      have c0 := clD (i := 0) K7_.out.bY rfl
      have c1 := clD (i := 1) K7_.out.bY rfl
      go_wp2
      go_roundg (gk - 1)
      case measure => have := HK.out; omega
      case rel => exact ⟨k + 1, _, _, by have := HK.out; omega, by go_num, KF⟩
    ·refine m3h rfl fun R' hR' hO => ?_
     obtain ⟨w8_, hw8_, hbw8_, hsw8_, hlw8_⟩ := laid wD #[.bool true] 4
     obtain ⟨Gw8_, hGw8_⟩ := nm (wD.heap.size)
     rw [hGw8_] at hlw8_ hsw8_
     have K8_ := hid (KD.out.grow hbw8_)
     have HGw8_ := hid hlw8_
     have HBw8_ := hid hbw8_
     clear hbw8_ hsw8_ hlw8_
     go_wp2
     refine hR' _ _ (HCL.out _ _ _ _ _ _ _ K8_.out) ?_
     clear hR' hO R' hGw8_ hw8_
     repeat (refine m3q rfl rfl ?_; go_big_quiet_step (fail); refine wpQuiet_nil ?_)
     refine m3h rfl fun R' hR' hO => ?_
     obtain ⟨w9_, hw9_, hbw9_, hsw9_, hlw9_⟩ := laid w8_ #[.int .u64 new] 26
     obtain ⟨Gw9_, hGw9_⟩ := nm (w8_.heap.size)
     rw [hGw9_] at hlw9_ hsw9_
     have K9_ := hid (K8_.out.grow hbw9_)
     have HGw9_ := hid hlw9_
     have HBw9_ := hid hbw9_
     clear hbw9_ hsw9_ hlw9_
     go_wp2
     refine hR' _ _ (HCL.out _ _ _ _ _ _ _ K9_.out) ?_
     clear hR' hO R' hGw9_ hw9_
     have HKL9_ := hid (klD HGw8_.out HBw9_.out)
     repeat (refine m3q rfl rfl ?_; go_big_quiet_step (fail); refine wpQuiet_nil ?_)
     refine m3h rfl fun R' hR' hO => ?_
     refine waM elemWords rfl (.tmp 24) (.tmp 26) rfl X (.slice a1 k q1) k (wcells (W'.take k)) rfl K9_.out.rw_ ⟨Gw9_, 0, none⟩ 1 1 (wcells [new]) rfl rfl ?_ ?_ ?_ ?_ ?_
     ·intro j u hu
      refine cell_add ?_
      rw [Nat.zero_add]
      exact clD HGw9_.out (by simpa [wcells] using hu)
     ·intro u hu
      obtain ⟨y, -, rfl⟩ := List.mem_map.1 hu
      rfl
     ·omega
     ·exact K9_.out.sz
     intro vw10_ w10_ ho hg hm
     have K10_ := hid (K9_.out.appW ho hg)
     obtain ⟨aw10_, cw10_, rfl, -⟩ := Leads.of_own ho
     have HKL10_ := hid (kgr HKL9_.out hg (fun e => by obtain ⟨cur, hc⟩ := own_type K9_.out.rw_ _ e; exact tyN hc HKL9_.out (by decide) rfl))
     clear ho hg hm
     go_wp2
     refine hR' _ _ (HCL.out _ _ _ _ _ _ _ K10_.out) ?_
     clear hR' hO R'
     repeat (refine m3q rfl rfl ?_; go_big_quiet_step (fail); refine wpQuiet_nil ?_)
     refine m3h rfl fun R' hR' hO => ?_
     refine waM elemBools rfl (.tmp 29) (.tmp 31) rfl X (.slice a2 k q2) k (bcells (L'.take k)) rfl K10_.out.rl ⟨Gw8_, 0, none⟩ 1 1 (bcells [true]) rfl rfl ?_ ?_ ?_ ?_ ?_
     ·intro j u hu
      refine cell_add ?_
      rw [Nat.zero_add]
      exact clD HKL10_.out (by simpa [bcells] using hu)
     ·intro u hu
      obtain ⟨y, -, rfl⟩ := List.mem_map.1 hu
      rfl
     ·omega
     ·exact K10_.out.sz
     intro vw11_ w11_ ho hg hm
     have K11_ := hid (K10_.out.appL ho hg)
     obtain ⟨aw11_, cw11_, rfl, -⟩ := Leads.of_own ho
     clear ho hg hm
     go_wp2
     refine hR' _ _ (HCL.out _ _ _ _ _ _ _ K11_.out) ?_
     clear hR' hO R'
     repeat (refine m3q rfl rfl ?_; go_big_quiet_step (fail); refine wpQuiet_nil ?_)
     refine m3d ?_
     simp only [List.drop_succ_cons, List.drop_zero]
     have KF := hid (K11_.out.st (.slice aw10_ (k + 1) cw10_) (.slice aw11_ (k + 1) cw11_))
     rw [HTW.out, HTL.out] at KF
     have f0 := flD (i := 0) K11_.out.bY
     have f1 := flD (i := 1) K11_.out.bY
     have c0 := clD (i := 0) K11_.out.bY rfl
     have c1 := clD (i := 1) K11_.out.bY rfl
     go_wp2
     go_roundg (gk - 1)
     case measure => have := HK.out; omega
     case rel => exact ⟨k + 1, _, _, by have := HK.out; omega, by go_num, KF⟩
   ·have HTW : Hid (W'.take k ++ [x] = W'.take (k + 1)) := hid (by rw [List.take_add_one, ← HW'.out, List.getElem?_set_ne (fun e => he e.symm), hxk]; rfl)
    have HTL : Hid (L'.take k ++ [c] = L'.take (k + 1)) := hid (by rw [List.take_add_one, ← HL'.out, List.getElem?_set_ne (fun e => he e.symm), hck]; rfl)
    have t0 : (((k : Nat) : Int) == ((at_ : Nat) : Int)) = false := by simp; omega
    clear hxk hck hwd hld hJ
    go_upto_region 7 with (fail)
    refine rgm3 (fun W => ∃ z : RW X Y b (o + k) b' (o' + k) (.slice (some ⟨b, o, none⟩) n wc) (.slice (some ⟨b', o', none⟩) n lc) (.slice a1 k q1) (.slice a2 k q2) x c, W = z.v) 19 (.q 0 (.q 1 (.q 2 (.q 3 (.q 4 (.q 5 (.q 6 (.q 9 (.q 10 (.q 11 (.q 12 (.q 13 (.q 14 (.q 15 (.h2 7 (.h2 8 (.q 18 (.h 16 (.h 17 (.done)))) 16 (.h 8 (.q 18 (.h 17 (.done))))) 16 (.h 7 (.h 8 (.q 18 (.h 17 (.done)))))))))))))))))))) (by kernel_rfl) (by kernel_rfl) hdr ?_
    clear hdr
    repeat (refine m3q rfl rfl ?_; go_big_quiet_step (fail); refine wpQuiet_nil ?_)
    obtain ⟨wD, hwD⟩ := nm (wr.drew)
    rw [hwD] at KD ⊢
    clear hwD e0 e1 e2 e3 e4 e5
    refine wpMix3_h2 ?_ ?_
    ·refine m3h rfl fun R' hR' hO => ?_
     obtain ⟨w12_, hw12_, hbw12_, hsw12_, hlw12_⟩ := laid wD #[.int .u64 x] 26
     obtain ⟨Gw12_, hGw12_⟩ := nm (wD.heap.size)
     rw [hGw12_] at hlw12_ hsw12_
     have K12_ := hid (KD.out.grow hbw12_)
     have HGw12_ := hid hlw12_
     have HBw12_ := hid hbw12_
     clear hbw12_ hsw12_ hlw12_
     go_wp2
     refine hR' _ _ (HCL.out _ _ _ _ _ _ _ K12_.out) ?_
     clear hR' hO R' hGw12_ hw12_
     repeat (refine m3q rfl rfl ?_; go_big_quiet_step (fail); refine wpQuiet_nil ?_)
     refine wpMix3_h2 ?_ ?_
     ·refine m3h rfl fun R' hR' hO => ?_
      refine waM elemWords rfl (.tmp 36) (.tmp 42) rfl X (.slice a1 k q1) k (wcells (W'.take k)) rfl K12_.out.rw_ ⟨Gw12_, 0, none⟩ 1 1 (wcells [x]) rfl rfl ?_ ?_ ?_ ?_ ?_
      ·intro j u hu
       refine cell_add ?_
       rw [Nat.zero_add]
       exact clD HGw12_.out (by simpa [wcells] using hu)
      ·intro u hu
       obtain ⟨y, -, rfl⟩ := List.mem_map.1 hu
       rfl
      ·omega
      ·exact K12_.out.sz
      intro vw13_ w13_ ho hg hm
      have K13_ := hid (K12_.out.appW ho hg)
      obtain ⟨aw13_, cw13_, rfl, -⟩ := Leads.of_own ho
      clear ho hg hm
      go_wp2
      refine hR' _ _ (HCL.out _ _ _ _ _ _ _ K13_.out) ?_
      clear hR' hO R'
      repeat (refine m3q rfl rfl ?_; go_big_quiet_step (fail); refine wpQuiet_nil ?_)
      refine m3h rfl fun R' hR' hO => ?_
      obtain ⟨w14_, hw14_, hbw14_, hsw14_, hlw14_⟩ := laid w13_ #[.bool c] 4
      obtain ⟨Gw14_, hGw14_⟩ := nm (w13_.heap.size)
      rw [hGw14_] at hlw14_ hsw14_
      have K14_ := hid (K13_.out.grow hbw14_)
      have HGw14_ := hid hlw14_
      have HBw14_ := hid hbw14_
      clear hbw14_ hsw14_ hlw14_
      go_wp2
      refine hR' _ _ (HCL.out _ _ _ _ _ _ _ K14_.out) ?_
      clear hR' hO R' hGw14_ hw14_
      repeat (refine m3q rfl rfl ?_; go_big_quiet_step (fail); refine wpQuiet_nil ?_)
      refine m3h rfl fun R' hR' hO => ?_
      refine waM elemBools rfl (.tmp 45) (.tmp 51) rfl X (.slice a2 k q2) k (bcells (L'.take k)) rfl K14_.out.rl ⟨Gw14_, 0, none⟩ 1 1 (bcells [c]) rfl rfl ?_ ?_ ?_ ?_ ?_
      ·intro j u hu
       refine cell_add ?_
       rw [Nat.zero_add]
       exact clD HGw14_.out (by simpa [bcells] using hu)
      ·intro u hu
       obtain ⟨y, -, rfl⟩ := List.mem_map.1 hu
       rfl
      ·omega
      ·exact K14_.out.sz
      intro vw15_ w15_ ho hg hm
      have K15_ := hid (K14_.out.appL ho hg)
      obtain ⟨aw15_, cw15_, rfl, -⟩ := Leads.of_own ho
      clear ho hg hm
      go_wp2
      refine hR' _ _ (HCL.out _ _ _ _ _ _ _ K15_.out) ?_
      clear hR' hO R'
      repeat (refine m3q rfl rfl ?_; go_big_quiet_step (fail); refine wpQuiet_nil ?_)
      refine m3d ?_
      simp only [List.drop_succ_cons, List.drop_zero]
      have KF := hid (K15_.out.st (.slice aw13_ (k + 1) cw13_) (.slice aw15_ (k + 1) cw15_))
      rw [HTW.out, HTL.out] at KF
      have f0 := flD (i := 0) K15_.out.bY
      have f1 := flD (i := 1) K15_.out.bY
      have c0 := clD (i := 0) K15_.out.bY rfl
      have c1 := clD (i := 1) K15_.out.bY rfl
      go_wp2
      go_roundg (gk - 1)
      case measure => have := HK.out; omega
      case rel => exact ⟨k + 1, _, _, by have := HK.out; omega, by go_num, KF⟩
     ·refine m3h rfl fun R' hR' hO => ?_
      obtain ⟨w16_, hw16_, hbw16_, hsw16_, hlw16_⟩ := laid w12_ #[.bool c] 4
      obtain ⟨Gw16_, hGw16_⟩ := nm (w12_.heap.size)
      rw [hGw16_] at hlw16_ hsw16_
      have K16_ := hid (K12_.out.grow hbw16_)
      have HGw16_ := hid hlw16_
      have HBw16_ := hid hbw16_
      clear hbw16_ hsw16_ hlw16_
      go_wp2
      refine hR' _ _ (HCL.out _ _ _ _ _ _ _ K16_.out) ?_
      clear hR' hO R' hGw16_ hw16_
      have HKW16_ := hid (klD HGw12_.out HBw16_.out)
      repeat (refine m3q rfl rfl ?_; go_big_quiet_step (fail); refine wpQuiet_nil ?_)
      refine m3h rfl fun R' hR' hO => ?_
      refine waM elemWords rfl (.tmp 36) (.tmp 42) rfl X (.slice a1 k q1) k (wcells (W'.take k)) rfl K16_.out.rw_ ⟨Gw12_, 0, none⟩ 1 1 (wcells [x]) rfl rfl ?_ ?_ ?_ ?_ ?_
      ·intro j u hu
       refine cell_add ?_
       rw [Nat.zero_add]
       exact clD HKW16_.out (by simpa [wcells] using hu)
      ·intro u hu
       obtain ⟨y, -, rfl⟩ := List.mem_map.1 hu
       rfl
      ·omega
      ·exact K16_.out.sz
      intro vw17_ w17_ ho hg hm
      have K17_ := hid (K16_.out.appW ho hg)
      obtain ⟨aw17_, cw17_, rfl, -⟩ := Leads.of_own ho
      have HKL17_ := hid (kgr HGw16_.out hg (fun e => by obtain ⟨cur, hc⟩ := own_type K16_.out.rw_ _ e; exact tyN hc HGw16_.out (by decide) rfl))
      clear ho hg hm
      go_wp2
      refine hR' _ _ (HCL.out _ _ _ _ _ _ _ K17_.out) ?_
      clear hR' hO R'
      repeat (refine m3q rfl rfl ?_; go_big_quiet_step (fail); refine wpQuiet_nil ?_)
      refine m3h rfl fun R' hR' hO => ?_
      refine waM elemBools rfl (.tmp 45) (.tmp 51) rfl X (.slice a2 k q2) k (bcells (L'.take k)) rfl K17_.out.rl ⟨Gw16_, 0, none⟩ 1 1 (bcells [c]) rfl rfl ?_ ?_ ?_ ?_ ?_
      ·intro j u hu
       refine cell_add ?_
       rw [Nat.zero_add]
       exact clD HKL17_.out (by simpa [bcells] using hu)
      ·intro u hu
       obtain ⟨y, -, rfl⟩ := List.mem_map.1 hu
       rfl
      ·omega
      ·exact K17_.out.sz
      intro vw18_ w18_ ho hg hm
      have K18_ := hid (K17_.out.appL ho hg)
      obtain ⟨aw18_, cw18_, rfl, -⟩ := Leads.of_own ho
      clear ho hg hm
      go_wp2
      refine hR' _ _ (HCL.out _ _ _ _ _ _ _ K18_.out) ?_
      clear hR' hO R'
      repeat (refine m3q rfl rfl ?_; go_big_quiet_step (fail); refine wpQuiet_nil ?_)
      refine m3d ?_
      simp only [List.drop_succ_cons, List.drop_zero]
      have KF := hid (K18_.out.st (.slice aw17_ (k + 1) cw17_) (.slice aw18_ (k + 1) cw18_))
      rw [HTW.out, HTL.out] at KF
      have f0 := flD (i := 0) K18_.out.bY
      have f1 := flD (i := 1) K18_.out.bY
      have c0 := clD (i := 0) K18_.out.bY rfl
      have c1 := clD (i := 1) K18_.out.bY rfl
      go_wp2
      go_roundg (gk - 1)
      case measure => have := HK.out; omega
      case rel => exact ⟨k + 1, _, _, by have := HK.out; omega, by go_num, KF⟩
    ·refine m3h rfl fun R' hR' hO => ?_
     obtain ⟨w19_, hw19_, hbw19_, hsw19_, hlw19_⟩ := laid wD #[.bool c] 4
     obtain ⟨Gw19_, hGw19_⟩ := nm (wD.heap.size)
     rw [hGw19_] at hlw19_ hsw19_
     have K19_ := hid (KD.out.grow hbw19_)
     have HGw19_ := hid hlw19_
     have HBw19_ := hid hbw19_
     clear hbw19_ hsw19_ hlw19_
     go_wp2
     refine hR' _ _ (HCL.out _ _ _ _ _ _ _ K19_.out) ?_
     clear hR' hO R' hGw19_ hw19_
     repeat (refine m3q rfl rfl ?_; go_big_quiet_step (fail); refine wpQuiet_nil ?_)
     refine m3h rfl fun R' hR' hO => ?_
     obtain ⟨w20_, hw20_, hbw20_, hsw20_, hlw20_⟩ := laid w19_ #[.int .u64 x] 26
     obtain ⟨Gw20_, hGw20_⟩ := nm (w19_.heap.size)
     rw [hGw20_] at hlw20_ hsw20_
     have K20_ := hid (K19_.out.grow hbw20_)
     have HGw20_ := hid hlw20_
     have HBw20_ := hid hbw20_
     clear hbw20_ hsw20_ hlw20_
     go_wp2
     refine hR' _ _ (HCL.out _ _ _ _ _ _ _ K20_.out) ?_
     clear hR' hO R' hGw20_ hw20_
     have HKL20_ := hid (klD HGw19_.out HBw20_.out)
     repeat (refine m3q rfl rfl ?_; go_big_quiet_step (fail); refine wpQuiet_nil ?_)
     refine m3h rfl fun R' hR' hO => ?_
     refine waM elemWords rfl (.tmp 36) (.tmp 42) rfl X (.slice a1 k q1) k (wcells (W'.take k)) rfl K20_.out.rw_ ⟨Gw20_, 0, none⟩ 1 1 (wcells [x]) rfl rfl ?_ ?_ ?_ ?_ ?_
     ·intro j u hu
      refine cell_add ?_
      rw [Nat.zero_add]
      exact clD HGw20_.out (by simpa [wcells] using hu)
     ·intro u hu
      obtain ⟨y, -, rfl⟩ := List.mem_map.1 hu
      rfl
     ·omega
     ·exact K20_.out.sz
     intro vw21_ w21_ ho hg hm
     have K21_ := hid (K20_.out.appW ho hg)
     obtain ⟨aw21_, cw21_, rfl, -⟩ := Leads.of_own ho
     have HKL21_ := hid (kgr HKL20_.out hg (fun e => by obtain ⟨cur, hc⟩ := own_type K20_.out.rw_ _ e; exact tyN hc HKL20_.out (by decide) rfl))
     clear ho hg hm
     go_wp2
     refine hR' _ _ (HCL.out _ _ _ _ _ _ _ K21_.out) ?_
     clear hR' hO R'
     repeat (refine m3q rfl rfl ?_; go_big_quiet_step (fail); refine wpQuiet_nil ?_)
     refine m3h rfl fun R' hR' hO => ?_
     refine waM elemBools rfl (.tmp 45) (.tmp 51) rfl X (.slice a2 k q2) k (bcells (L'.take k)) rfl K21_.out.rl ⟨Gw19_, 0, none⟩ 1 1 (bcells [c]) rfl rfl ?_ ?_ ?_ ?_ ?_
     ·intro j u hu
      refine cell_add ?_
      rw [Nat.zero_add]
      exact clD HKL21_.out (by simpa [bcells] using hu)
     ·intro u hu
      obtain ⟨y, -, rfl⟩ := List.mem_map.1 hu
      rfl
     ·omega
     ·exact K21_.out.sz
     intro vw22_ w22_ ho hg hm
     have K22_ := hid (K21_.out.appL ho hg)
     obtain ⟨aw22_, cw22_, rfl, -⟩ := Leads.of_own ho
     clear ho hg hm
     go_wp2
     refine hR' _ _ (HCL.out _ _ _ _ _ _ _ K22_.out) ?_
     clear hR' hO R'
     repeat (refine m3q rfl rfl ?_; go_big_quiet_step (fail); refine wpQuiet_nil ?_)
     refine m3d ?_
     simp only [List.drop_succ_cons, List.drop_zero]
     have KF := hid (K22_.out.st (.slice aw21_ (k + 1) cw21_) (.slice aw22_ (k + 1) cw22_))
     rw [HTW.out, HTL.out] at KF
     have f0 := flD (i := 0) K22_.out.bY
     have f1 := flD (i := 1) K22_.out.bY
     have c0 := clD (i := 0) K22_.out.bY rfl
     have c1 := clD (i := 1) K22_.out.bY rfl
     go_wp2
     go_roundg (gk - 1)
     case measure => have := HK.out; omega
     case rel => exact ⟨k + 1, _, _, by have := HK.out; omega, by go_num, KF⟩
  ·have e := HK.out
   obtain rfl : k = n := by omega
   obtain ⟨V5, hV5, hz5, hk5, hb5, hm5⟩ := put_mem hJ.out.bz (.slice a1 k q1) (.slice a2 k q2) (.bool F)
   have f0 := flD (i := 0) hJ.out.bz
   have f1 := flD (i := 1) hJ.out.bz
   have f2 := flD (i := 2) hJ.out.bz
   obtain ⟨z0, z1, z2⟩ := cells3 hJ.out.bz
   obtain ⟨y0, y1, y2⟩ := cells3 hJ.out.bY
   have hMO : MemO X a1 q1 a2 q2 ⟨W', L', F⟩ wr := by
    have r1 := hJ.out.rw_
    have r2 := hJ.out.rl
    rw [List.take_of_length_le (by rw [HWl.out]; exact Nat.le_refl _)] at r1
    rw [List.take_of_length_le (by rw [HLl.out]; exact Nat.le_refl _)] at r2
    exact ⟨by show wr.ownsRow X _ 1 (.slice a1 W'.length q1) W'.length _; rw [HWl.out]; exact r1, by show wr.ownsRow X _ 1 (.slice a2 L'.length q2) L'.length _; rw [HLl.out]; exact r2⟩
   have HM5 := hid (hm5 _ _ _ _ _ _ hMO)
   have HB5 := hid (hb5 _ _ (show X ≤ Z from HXZ.out) hJ.out.below)
   have HZ5 := hid hz5
   have HV5 := hid hV5
   clear hJ e hV5 hz5 hk5 hb5 hm5 hMO HK
   go_wp2
   rw [← HV5.out]
   refine bodyPost_ret (with_result HZ5.out rfl) rfl ?_
   refine ⟨a1, q1, a2, q2, ?_, ?_, ?_⟩
   ·rw [HW'.out, HL'.out]
    unfold memV
    simp only [HWl.out, HLl.out]
   ·rw [HW'.out, HL'.out, HX.out]
    exact HM5.out
   ·rw [HX.out]
    exact HB5.out
end Go.Proofs.YtipohagcppfgiaaGreat
