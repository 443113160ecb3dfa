/- Several texts in one. -/
import Derived.Test.YtahicokokfcieaaGreatDoorTgAv
namespace Go.Proofs.YtahicokokfcieaaGreatDoor
open Go.RowKit
open Go.Proofs
set_option linter.unusedVariables false
theorem chain_nd {M : Mem} : ∀ (p : Nat) (xs : List Nd), ChainP M p xs → ∀ x ∈ xs, x = ndAt M x.1
  | p, [], h, x, hx => by cases hx
  | p, y :: r, ⟨h1, h2, h3, h4⟩, x, hx => by
    rcases List.mem_cons.1 hx with rfl | hx
    · have e : x.1 = p := by rw [h1]; rfl
      rw [e]; exact h1
    · exact chain_nd _ r h4 x hx
theorem twAt_lt {M : Mem} (hW : ∀ x ∈ M.W, x < 18446744073709551616) (p k : Nat) : wAt M p k < 18446744073709551616 := by
  unfold wAt
  rw [List.getD_eq_getElem?_getD]
  cases hx : M.W[posL p k]? with
  | none => show (0 : Nat) < _; decide
  | some x => exact hW x (List.mem_of_getElem? hx)
theorem rows_ok {M : Mem} {root : Nat} {xs : List Rw} {met : List Nat} (hok : okM M = true) (hW : ∀ x ∈ M.W, x < 18446744073709551616) (h : rowsW M root = some (xs, met)) : RwsOk xs ∧ xs.length ≤ 4096 := by
  obtain ⟨a, d, nss, hT, rfl, rfl⟩ := tab_of hok h
  obtain ⟨hd2, hd4, -⟩ := saysW_some (show saysW (rdL M.W root) = some (a, d) from hT.says)
  have hp16 := (pow_dep hd2 hd4).2.2
  constructor
  · intro r hr
    obtain ⟨i, ns, t, h1, h2, rfl⟩ := (rowsB_mem _ _ _).1 hr
    have hi := (List.getElem?_eq_some_iff.1 h1).1
    rw [hT.len] at hi
    obtain ⟨n1, -⟩ := bok_at _ _ _ _ hT.bok h1
    have hnd := chain_nd _ _ (nodesW_chain (nodesR_some n1).1).2 t h2
    have hle := nodes_le hok n1 t h2
    refine ⟨by show 0 + i < 1000; omega, by show t.1 < _; omega, ?_, ?_⟩
    · show t.2.1 < _
      rw [hnd]; exact twAt_lt hW _ _
    · show t.2.2.1 < _
      rw [hnd]; exact twAt_lt hW _ _
  · have hlen : ∀ (nss : List (List Nd)) (b : Nat), (rowsB b nss).length * 4 = (wordsT nss).length := by
      intro nss
      induction nss with
      | nil => intro b; rfl
      | cons ns q ih =>
        intro b
        have hw : ∀ l : List Nd, (w4R l).length = l.length * 4 := by
          intro l
          induction l with
          | nil => rfl
          | cons x l ih => rw [w4R_cons, List.length_append, ih, List.length_range', List.length_cons]; omega
        rw [wordsT_cons, List.length_append, hw, ← ih (b + 1)]
        simp only [rowsB, List.length_append, List.length_map]
        omega
    have hnd := nodup_lt (n := M.L.length) hT.nd (fun x hx => live_lt (hT.live x hx))
    obtain ⟨o1, o2, o3, -⟩ := okM_spec hok
    have := hlen nss 0
    unfold metT at hnd
    rw [List.length_append] at hnd
    omega
theorem lt_any0 {A : World} {k : Nat} {o : Obj} (h : A.heap[k]? = some o) : k < A.heap.size := (Array.getElem?_eq_some_iff.1 h).1
theorem own_blk {W : World} {base size n : Nat} {e : TypeId} {v : Value} {xs : List Value} (h : W.ownsRow base e size v n xs) (hn : 0 < n) : ∃ g cap, v = .slice (some ⟨g, 0, none⟩) n cap ∧ base ≤ g ∧ g < W.heap.size := by
  obtain ⟨-, ⟨-, q, -⟩ | ⟨g, cap, cur, q, hb, hh, -⟩⟩ := h
  · omega
  · exact ⟨g, cap, q, hb, lt_any0 hh⟩
end Go.Proofs.YtahicokokfcieaaGreatDoor
namespace Go.Proofs.YtahicokokfcieaaGreatDoor
open Go.RowKit
open Go.Proofs
set_option linter.unusedVariables false
attribute [local go_sem] Oper.semAt_some
/-- What the document's walk over rows has made. -/
structure Rr (V : World) (X : Nat) (cs : Array Value) (out : List Rw) (met : List Nat) (v11 v10 : Value) (W : World) : Prop where
  bx : W.heap[X]? = some (.cells cs 25 (0, 0))
  r11 : W.ownsRow V.heap.size 73 4 v11 out.length (rwcells out)
  r10 : W.ownsRow V.heap.size 3 1 v10 met.length (ncells met)
  below : Below V.heap.size V W
section
variable {V W W' : World} {X : Nat} {cs : Array Value} {met : List Nat} {out : List Rw} {v11 v10 : Value}
theorem Rr.grow (h : Rr V X cs out met v11 v10 W) (hb : Below W.heap.size W W') : Rr V X cs out met v11 v10 W' :=
  ⟨keep_laid h.bx hb, own_grow h.r11 hb, own_grow h.r10 hb, h.below.trans (hb.mono h.below.size)⟩
theorem Rr.app10 {q : Nat} {v : Value} (h : Rr V X cs out met v11 v10 W) (ho : W'.ownsRow V.heap.size 3 1 v (met.length + 1) (ncells met ++ [.int .i64 ((q : Nat) : Int)])) (hg : W.grownBy W' v10.ownBlock) : Rr V X cs out (met ++ [q]) v11 v W' := by
  refine ⟨keep_grown h.bx hg (own_ne h.r10 h.bx (by decide)), own_own h.r10 h.r11 (by decide) hg, ?_, h.below.trans (own_below h.r10 hg h.below.size)⟩
  rw [List.length_append, ncells_app]
  exact ho
theorem Rr.app11 {t : Rw} {v : Value} (h : Rr V X cs out met v11 v10 W) (ho : W'.ownsRow V.heap.size 73 4 v (out.length + 1) (rwcells out ++ rw4 t)) (hg : W.grownBy W' v11.ownBlock) : Rr V X cs (out ++ [t]) met v v10 W' := by
  refine ⟨keep_grown h.bx hg (own_ne h.r11 h.bx (by decide)), ?_, own_own h.r11 h.r10 (by decide) hg, h.below.trans (own_below h.r11 hg h.below.size)⟩
  rw [List.length_append, rwcells_snoc]
  exact ho
end
theorem Rr.put {V W W' : World} {X : Nat} {cs : Array Value} {met : List Nat} {out : List Rw} {v11 v10 : Value} {N : Nat} {c : Array Value} {e : TypeId} (h : Rr V X cs out met v11 v10 W) (hN : W.heap[N]? = some (.cells c e (0, 0))) (h1 : 73 ≠ e) (h2 : 3 ≠ e) (h3 : 25 ≠ e)
    (a2 : ∀ (k : Nat) (o : Obj), k ≠ N → W.heap[k]? = some o → W'.heap[k]? = some o) (hb : Below V.heap.size V W') : Rr V X cs out met v11 v10 W' := by
  refine ⟨a2 X _ (type_ne h.bx hN h3) h.bx, own_keep h.r11 fun k o hk ho => a2 k o ?_ ho, own_keep h.r10 fun k o hk ho => a2 k o ?_ ho, hb⟩
  · obtain ⟨c', hc'⟩ := own_type h.r11 k hk
    exact type_ne hc' hN h1
  · obtain ⟨c', hc'⟩ := own_type h.r10 k hk
    exact type_ne hc' hN h2
theorem moved_ne {w : World} {v v' : Value} {g : Nat} (h : Moved w v v') (hv : ∀ q, v.ownBlock = some q → q ≠ g) (hg : g < w.heap.size) : ∀ q, v'.ownBlock = some q → q ≠ g := by
  intro q hq
  rcases h with e | e
  · exact hv q (e ▸ hq)
  · have := e q hq; omega
theorem wordsL_one {t : Nd} (h : t.1 ≤ 4096) : wordsL 0 [t] = [0, t.1, t.1 + 1, t.1 + 2, t.1 + 3] := by
  show [posL 0 0, posL t.1 0, posL t.1 1, posL t.1 2, posL t.1 3] = _
  rw [posT_le h, posT_le h, posT_le h, posT_le h]
  rfl
def GivesRR (R : Option (List Rw × List Nat)) (V : World) (e : Ending) (W : World) : Prop := Below V.heap.size V W ∧ ((R = none ∧ e = .returned (.tuple #[.slice none 0 0, .slice none 0 0, .bool false])) ∨
  (∃ xs met v u, R = some (xs, met) ∧ e = .returned (.tuple #[v, u, .bool true]) ∧ W.ownsRow V.heap.size 73 4 v xs.length (rwcells xs) ∧ W.ownsRow V.heap.size 3 1 u met.length (ncells met)))
/-- The words that were met: apart, and 4 for each row. -/
structure MetR (n : Nat) (out : List Rw) (met : List Nat) : Prop where
  ok : MetOk n met
  len : 4 * out.length ≤ met.length
/-- What is left of a bucket, and of the buckets behind it. -/
def leftR (M : Mem) (a d b g : Nat) (ts : List Nd) (met : List Nat) (out : List Rw) : Option (List Rw × List Nat) := (takeNs M d b ts met out).bind fun r => bucketsGo M a d g (b + 1) r.2 r.1
theorem leftR_none {M : Mem} {a d b g : Nat} {t : Nd} {ts : List Nd} {met : List Nat} {out : List Rw} (h : tmeet M t.1 4 met = none) : leftR M a d b g (t :: ts) met out = none := by unfold leftR; rw [takeNs_none h]; rfl
theorem leftR_bad {M : Mem} {a d b g : Nat} {t : Nd} {ts : List Nd} {met : List Nat} {out : List Rw} (hn : ¬ (ofN t.2.1 d = b ∧ hashN t.2.1 = t.2.2.2)) : leftR M a d b g (t :: ts) met out = none := by
  cases h : tmeet M t.1 4 met with
  | none => exact leftR_none h
  | some m => unfold leftR; rw [takeNs_bad h hn]; rfl
theorem leftR_good {M : Mem} {a d b g : Nat} {t : Nd} {ts : List Nd} {met met' : List Nat} {out : List Rw} (h : tmeet M t.1 4 met = some met') (ho : ofN t.2.1 d = b) (hh : hashN t.2.1 = t.2.2.2) : leftR M a d b g (t :: ts) met out = leftR M a d b g ts met' (out ++ [rwOf b t]) := by unfold leftR; rw [takeNs_good h ho hh]
theorem rowsW_of {M : Mem} {root a d : Nat} (hs : saysW (M.W.getD root 0) = some (a, d)) : rowsW M root = (resW M root a (2 ^ d)).bind fun m1 => bucketsGo M a d (2 ^ d) 0 m1 [] := by
  unfold rowsW resW
  cases tmeet M root 1 [] with
  | none => rfl
  | some m0 =>
    rw [Option.bind_some, hs, Option.bind_some]
    rfl
theorem rowsW_says {M : Mem} {root : Nat} (hs : saysW (M.W.getD root 0) = none) : rowsW M root = none := by
  unfold rowsW
  cases tmeet M root 1 [] with
  | none => rfl
  | some m0 => rw [Option.bind_some, hs]; rfl
theorem rowsW_dead {M : Mem} {root : Nat} (h : liveN M root = false) : rowsW M root = none := by
  unfold rowsW
  have : tmeet M root 1 [] = none := by
    unfold tmeet takeN freeB
    rw [h]
    split <;> rfl
  rw [this]; rfl
theorem resW_met {M : Mem} {root a p : Nat} {m1 : List Nat} (hm : M.L.length = M.W.length) (h : resW M root a p = some m1) : MetOk M.W.length m1 := by
  unfold resW at h
  cases h0 : tmeet M root 1 [] with
  | none => rw [h0] at h; cases h
  | some m0 =>
    rw [h0, Option.bind_some] at h
    have e0 : MetOk M.W.length [] := ⟨List.nodup_nil, fun x hx => by cases hx⟩
    exact ((e0.meet hm h0).1.meet hm h).1
set_option maxRecDepth 100000 in
set_option maxHeartbeats 16000000 in
theorem rRows19_any (M : Mem) (wa la : Option Addr) (wc lc root : Nat) (V : World) (h : MemL V wa wc la lc M) (hok : okM M = true) (hr : root < 18446744073709551616) (hW : ∀ x ∈ M.W, x < 18446744073709551616) :
    Calls Tryz.prog 10 #[memV wa wc la lc M, .int .u64 ((root : Nat) : Int)] V (GivesRR (rowsW M root) V) := by
  obtain ⟨hn1, hn4, hmn, -⟩ := okM_spec hok
  obtain ⟨V1, hV1, hb1, hs1, hl1⟩ := laid V #[.slice wa M.W.length wc, .slice la M.L.length lc, .bool M.F] 25
  obtain ⟨X, hX⟩ : ∃ X, V.heap.size = X := ⟨_, rfl⟩
  rw [hX] at hl1
  have hVX : V.heap.size ≤ X := by omega
  have KX := hid hl1
  have HB := hid hb1
  have HM := hid h
  have HOK := hid hok
  have HMN := hid hmn
  have hwl := h.w.len
  have hll := h.l.len
  have HLV := hid (fun (W : World) (hb : Below V.heap.size V W) => rLive19_any M wa la wc lc root W (HM.out.grow hb) hmn hr)
  have HWD := hid (fun (a p : Nat) (W : World) (hb : Below V.heap.size V W) (ha : a < 18446744073709551616) (hp : p ≤ 16) => rWords19_any M wa la wc lc root a p W (HM.out.grow hb) hok hr ha hp)
  have HND := hid (fun (q : Nat) (W : World) (hb : Below V.heap.size V W) (hq : q < 18446744073709551616) => rNodes_any M wa la wc lc q W (HM.out.grow hb) hok hq hW)
  obtain ⟨RES, hRES⟩ : ∃ R, rowsW M root = R := ⟨_, rfl⟩
  rw [hRES]
  have HRES := hid hRES
  have HWW := hid hW
  unfold memV at HLV HWD HND ⊢
  have x0 := cell_laid (i := 0) KX.out rfl
  have x1 := cell_laid (i := 1) KX.out rfl
  have x2 := cell_laid (i := 2) KX.out rfl
  clear hb1 hs1 hl1 h hok hRES hmn hW
  go_enter Tryz.func10, Tryz.ntmps10
  go_wp2_with fail
  refine (HLV.out V1 HB.out).mono ?_
  rintro e w2 ⟨rfl, hb2⟩
  have KX2 := hid (keep_laid KX.out hb2)
  have HB2 := hid (step HB.out hb2)
  clear hb2 x0 x1 x2 hX KX HB HLV
  cases hlr : liveN M root with
  | false =>
    have HN : Hid (RES = none) := hid (by rw [← HRES.out]; exact rowsW_dead hlr)
    clear hlr
    go_wp2
    refine bodyPost_ret (results_tmp3 rfl _ _ _) rfl ?_
    exact ⟨HB2.out, .inl ⟨HN.out, rfl⟩⟩
  | true =>
    have hrl : root < M.W.length := by have := live_lt hlr; rw [HMN.out] at this; exact this
    obtain ⟨x, hx⟩ : ∃ x, M.W[root]? = some x := ⟨_, List.getElem?_eq_getElem hrl⟩
    have hxb : x < 18446744073709551616 := HWW.out x (List.mem_of_getElem? hx)
    obtain ⟨wb, wo, hwa, -, hcw⟩ := (HM.out.grow HB2.out).w.at hrl (wcell_at hx)
    have f1 := hcw _ (Below.refl _ _)
    have hxd : M.W.getD root 0 = x := by rw [List.getD_eq_getElem?_getD, hx]; rfl
    have HSY := hid (fun W => rSays_any x W hxb)
    have y0 := cell_laid (i := 0) KX2.out rfl
    have hrl' : ((root : Nat) : Int) < ((M.W.length : Nat) : Int) := by omega
    have HWA := hid hwa
    have HXD := hid hxd
    clear hx hlr hcw hwa hxd
    rw [HWA.out] at y0
    cases hsx : saysW x with
    | none =>
      rw [hsx] at HSY
      unfold rsaysV at HSY
      have HN : Hid (RES = none) := hid (by rw [← HRES.out]; exact rowsW_says (by rw [HXD.out]; exact hsx))
      clear hsx
      go_wp2_with fail
      refine (HSY.out w2).mono ?_
      rintro e w3 ⟨rfl, hb3⟩
      have HB3 := hid (step HB2.out hb3)
      clear hb3 y0 f1
      go_wp2
      refine bodyPost_ret (results_tmp3 rfl _ _ _) rfl ?_
      exact ⟨HB3.out, .inl ⟨HN.out, rfl⟩⟩
    | some ad =>
      obtain ⟨a, d⟩ := ad
      obtain ⟨hd2, hd4, ha⟩ := saysW_some hsx
      obtain ⟨hdep, hp4, hp16⟩ := pow_dep hd2 hd4
      rw [hsx] at HSY
      unfold rsaysV at HSY
      dsimp only at HSY
      have hrw := rowsW_of (M := M) (root := root) (by rw [HXD.out]; exact hsx)
      rw [HRES.out] at hrw
      obtain ⟨p, hp⟩ : ∃ p, 2 ^ d = p := ⟨_, rfl⟩
      rw [hp] at HSY hdep hp4 hp16 hrw
      have HRW := hid hrw
      have HOF := hid (fun (key : Nat) (W : World) => rOf_any key d ((p : Nat) : Int) W hdep)
      clear hsx hp hrw hdep
      go_wp2_with fail
      refine (HSY.out w2).mono ?_
      rintro e w3 ⟨rfl, hb3⟩
      have KX3 := hid (keep_laid KX2.out hb3)
      have HB3 := hid (step HB2.out hb3)
      clear hb3 y0 f1 KX2 HB2 HSY
      have y0 := cell_laid (i := 0) KX3.out rfl
      have y1 := cell_laid (i := 1) KX3.out rfl
      have y2 := cell_laid (i := 2) KX3.out rfl
      go_wp2_with fail
      refine (HWD.out a p w3 HB3.out (by omega) hp16).mono ?_
      rintro e w4 ⟨hb4, ⟨hno, rfl⟩ | ⟨m1, v1, hm1, rfl, hrow⟩⟩
      · have HN : Hid (RES = none) := hid (by rw [HRW.out, hno]; rfl)
        have HB4 := hid (step HB3.out hb4)
        clear hb4 hno y0 y1 y2
        go_wp2
        refine bodyPost_ret (results_tmp3 rfl _ _ _) rfl ?_
        exact ⟨HB4.out, .inl ⟨HN.out, rfl⟩⟩
      · have HGO : Hid (bucketsGo M a d p 0 m1 [] = RES) := hid (by rw [HRW.out, hm1]; rfl)
        have HMR : Hid (MetR M.W.length [] m1) := hid ⟨resW_met HMN.out hm1, by simp⟩
        have HR0 : Hid (Rr V X #[.slice wa M.W.length wc, .slice la M.L.length lc, .bool M.F] [] m1 (.slice none 0 0) v1 w4) := hid ⟨keep_laid KX3.out hb4, World.ownsRow_nil _ _ _ _, own_base hrow HB3.out.size, step HB3.out hb4⟩
        clear hb4 hm1 hrow y0 y1 y2 KX3 HB3 HRW HWD
        go_wp2
        go_loopg [10, 11, 46] p (fun g t10 t11 t46 wr => ∃ (b : Nat) (met : List Nat) (out : List Rw), t46 = .int .i64 ((b : Nat) : Int) ∧ Hid (b + g = p) ∧ Hid (Rr V X #[.slice wa M.W.length wc, .slice la M.L.length lc, .bool M.F] out met t11 t10 wr) ∧ Hid (MetR M.W.length out met) ∧ Hid (bucketsGo M a d g b met out = RES))
        case atStart => exact ⟨0, m1, [], rfl, hid (by omega), HR0, HMR, HGO⟩
        case round =>
          clear HR0 HMR HGO
          obtain ⟨b, met, out, rfl, hb, hR, hMR, hG⟩ := hrel
          have HBG := hb
          by_cases hbp : b < p
          · obtain ⟨g1, hg1⟩ : ∃ g1, gk = g1 + 1 := ⟨gk - 1, by have := hb.out; omega⟩
            have HG1 := hid hg1
            have hG2 := hG.out
            rw [hg1] at hG2
            unfold bucketsGo at hG2
            obtain ⟨q, hq⟩ : ∃ q, a + b = q := ⟨_, rfl⟩
            have hwb : IntKind.u64.wrap ((b : Nat) : Int) = ((b : Nat) : Int) := by rw [IntKind.wrap_u64]; omega
            have hsi : IntKind.u64.wrap (((a : Nat) : Int) + ((b : Nat) : Int)) = ((q : Nat) : Int) := by rw [IntKind.wrap_u64]; omega
            rw [hq] at hG2
            have hq64 : q < 18446744073709551616 := by omega
            have HG2 := hid hG2
            have t1 : decide (((b : Nat) : Int) < ((p : Nat) : Int)) = true := decide_eq_true (by omega)
            have t1' : ((b : Nat) : Int) < ((p : Nat) : Int) := by omega
            have y0 := cell_laid (i := 0) hR.out.bx rfl
            have y1 := cell_laid (i := 1) hR.out.bx rfl
            have y2 := cell_laid (i := 2) hR.out.bx rfl
            clear hg1 hG2 hG hb hq
            go_wp2_with fail
            refine (HND.out q wr hR.out.below hq64).mono ?_
            rintro e w5 ⟨vn, bn, rfl, hb5, hnone, hsome⟩
            have HR5 := hid (hR.out.grow hb5)
            clear y0 y1 y2 hR hb5
            cases hns : nodesR M q with
            | none =>
              obtain ⟨rfl, rfl⟩ := hnone hns
              have HN : Hid (RES = none) := hid (by rw [← HG2.out, hns]; rfl)
              clear hnone hsome hns
              go_wp2
              refine bodyPost_ret (results_tmp3 rfl _ _ _) rfl ?_
              exact ⟨HR5.out.below, .inl ⟨HN.out, rfl⟩⟩
            | some ns =>
              obtain ⟨rfl, hrow⟩ := hsome ns hns
              have HL0 : Hid (leftR M a d b g1 (ns.drop 0) met out = RES) := hid (by rw [← HG2.out, hns]; rfl)
              have hle := nodes_le HOK.out hns
              have hnb : ∀ t ∈ ns, t.2.1 < 18446744073709551616 ∧ t.2.2.1 < 18446744073709551616 ∧ (∀ k, k < 4 → liveN M (t.1 + k) = true) := fun t ht => by
                have hch := (nodesW_chain (nodesR_some hns).1).2
                have hnd := chain_nd _ _ hch t ht
                refine ⟨by rw [hnd]; exact twAt_lt HWW.out _ _, by rw [hnd]; exact twAt_lt HWW.out _ _, fun k hk => ?_⟩
                have := (chain_live HOK.out _ _ hch t ht).2.1 k hk
                have h4 := hle t ht
                rwa [show posL t.1 k = t.1 + k by unfold posL; omega] at this
              obtain ⟨na, nc, rfl, -⟩ := Leads.of_own hrow
              obtain ⟨n, hn⟩ : ∃ n, ns.length = n := ⟨_, rfl⟩
              obtain ⟨bs, hbs⟩ : ∃ x, wr.heap.size = x := ⟨_, rfl⟩
              rw [hn, hbs] at hrow
              rw [hn]
              clear hbs
              have HNN := hid hn
              have HNR0 := hid hrow
              have HLE := hid hle
              have HNB := hid hnb
              have hnl := (Leads.of_own1 hrow).len
              clear hnone hsome hns hle hnb hn hrow HG2
              go_wp2
              go_loopg [10, 11, 62] n (fun g t10 t11 t62 wr => ∃ (i : Nat) (met : List Nat) (out : List Rw) (v10 v11 : Value), t62 = .int .i64 ((i : Nat) : Int) ∧ v10 = t10 ∧ v11 = t11 ∧ Hid (i + g = n) ∧ Hid (Rr V X #[.slice wa M.W.length wc, .slice la M.L.length lc, .bool M.F] out met v11 v10 wr) ∧ Hid (MetR M.W.length out met) ∧ Hid (leftR M a d b g1 (ns.drop i) met out = RES) ∧ Hid (wr.ownsRow bs 50 4 (.slice na n nc) n (ndcells ns)))
              case atStart => exact ⟨0, met, out, _, _, rfl, rfl, rfl, hid (by omega), HR5, hMR, HL0, HNR0⟩
              case round =>
                clear HR5 HL0 HNR0 hMR
                obtain ⟨i, met, out, v10, v11, rfl, rfl, rfl, hi, hR, hMR, hL, hNR⟩ := hrel
                have HI := hi
                by_cases hin : i < n
                · obtain ⟨⟨t0, t1, t2, t3⟩, hti⟩ : ∃ x, ns[i]? = some x := ⟨_, List.getElem?_eq_getElem (by rw [HNN.out]; exact hin)⟩
                  have hmem := List.mem_of_getElem? hti
                  have hdr : ns.drop i = (t0, t1, t2, t3) :: ns.drop (i + 1) := by
                    have hlt : i < ns.length := by rw [HNN.out]; exact hin
                    rw [List.drop_eq_getElem_cons hlt]
                    congr 1
                    rw [List.getElem?_eq_getElem hlt] at hti
                    exact Option.some.inj hti
                  have hL2 := hL.out
                  rw [hdr] at hL2
                  have HL2 := hid hL2
                  have ht04 : t0 ≤ 4096 := HLE.out _ hmem
                  obtain ⟨ht1b, ht2b, hlive⟩ := HNB.out _ hmem
                  dsimp only at ht1b ht2b hlive
                  have HLIV := hid hlive
                  obtain ⟨b', off', hna, -, hcc⟩ := (Leads.of_own1 hNR.out).nd hin hti
                  have HNA := hid hna
                  subst hna
                  obtain ⟨f0, f1, f2, f3⟩ := hcc wr (Below.refl _ _)
                  obtain ⟨w6, hw6, hb6, hs6, hl6⟩ := laid wr #[.int .u64 0, .int .u64 0, .int .u64 0, .int .u64 0] 50
                  obtain ⟨N, hN⟩ : ∃ X, wr.heap.size = X := ⟨_, rfl⟩
                  rw [hN] at hl6
                  have KN6 := hid hl6
                  have HR6 := hid (hR.out.grow hb6)
                  have HNR6 := hid (own_grow hNR.out hb6)
                  have hVN : V.heap.size ≤ N := by have := hR.out.below.size; omega
                  have HKLT : Hid (∀ q, (Value.slice (some ⟨b', off', none⟩) n nc).ownBlock = some q → q < N) := hid (fun q hq => by have := (hNR.out.lt q hq).2; omega)
                  have HOFK := hid (fun W => HOF.out t1 W)
                  obtain ⟨o, ho⟩ : ∃ o, ofN t1 d = o := ⟨_, rfl⟩
                  rw [ho] at HOFK
                  have hol : o < 16 := by have := ofN_lt (key := t1) (show d ≤ 64 by omega); have := (pow_dep hd2 hd4).2.2; omega
                  obtain ⟨hsh, hhsh⟩ : ∃ h, hashN t1 = h := ⟨_, rfl⟩
                  have HHK := hid (fun W => rHash_any t1 W)
                  rw [hhsh] at HHK
                  have t4 : decide (((i : Nat) : Int) < ((n : Nat) : Int)) = true := decide_eq_true (by omega)
                  have t4' : ((i : Nat) : Int) < ((n : Nat) : Int) := by omega
                  have HO := hid ho
                  have HHH := hid hhsh
                  clear hb6 hs6 hl6 hcc hti hdr hL2 hL hi ho hhsh hmem hlive hR hNR
                  go_upto_region 19 with (refine wp_storeP rfl 50 (.tmp 16) (.tmp 65) rfl N 0 _ #[.int .u64 ((t0 : Nat) : Int), .int .u64 ((t1 : Nat) : Int), .int .u64 ((t2 : Nat) : Int), .int .u64 ((t3 : Nat) : Int)] _ rfl rfl _ KN6.out (by kernel_rfl) (Nat.le_of_ble_eq_true rfl) (by kernel_rfl) rfl ?_; intro w7 a1 a2 a3 a4; have KN7 := hid a1; have HR7 := hid (HR6.out.put KN6.out (by decide) (by decide) (by decide) a2 (a3 V.heap.size V hVN HR6.out.below)); have HNR7 := hid (own_keep HNR6.out fun k o hk ho => a2 k o (by have := HKLT.out k hk; omega) ho); clear a1 a2 a3 a4; (try simp only [Act.put]))
                  clear hN f0 f1 f2 f3
                  by_cases hh3 : t3 = hsh
                  · have e3 : (((t3 : Nat) : Int) != ((hsh : Nat) : Int)) = false := by simp [hh3]
                    by_cases hob : o = b
                    · have e4 : (((o : Nat) : Int) != ((b : Nat) : Int)) = false := by simp [hob]
                      have HCND := hid (And.intro hob hh3)
                      clear hob hh3
                      have n1 : ∀ z : Ext w7, z.v.cell? ⟨N, 1, none⟩ = some (.int .u64 ((t1 : Nat) : Int)) := fun z => cell_laid (i := 1) (keep_laid KN7.out z.b) rfl
                      have n3 : ∀ z : Ext w7, z.v.cell? ⟨N, 3, none⟩ = some (.int .u64 ((t3 : Nat) : Int)) := fun z => cell_laid (i := 3) (keep_laid KN7.out z.b) rfl
                      refine wp_region_ext (by kernel_rfl) (by kernel_rfl) ?_
                      repeat (go_big_quiet_step (first | (go_at_call 35; exact ext_of (HHK.out _)) | (go_at_call 36; exact ext_of (HOFK.out _))))
                      refine wpQuiet_nil ?_
                      rintro v8 ⟨x8, e8⟩
                      have hb8 := x8.b
                      rw [← e8] at hb8
                      clear e8 x8 n1 n3
                      have HR8 := hid (HR7.out.grow hb8)
                      have KN8 := hid (keep_laid KN7.out hb8)
                      have HNR8 := hid (own_grow HNR7.out hb8)
                      clear hb8 HR7 KN7 HNR7
                      obtain ⟨xa, xc, e11, -⟩ := Leads.of_own HR8.out.r11
                      obtain ⟨ol, hol2⟩ : ∃ x, out.length = x := ⟨_, rfl⟩
                      rw [hol2] at e11
                      have HOL := hid hol2
                      have hmr := hMR.out
                      have hml4 := hmr.ok.len
                      have hol4 : ol ≤ 4096 := by have := hmr.len; omega
                      clear hol2 hmr
                      obtain ⟨w9, hw9, hb9, hs9, hl9⟩ := laid v8 #[.int .u64 ((t0 : Nat) : Int), .int .u64 ((t1 : Nat) : Int), .int .u64 ((t2 : Nat) : Int), .int .u64 ((t3 : Nat) : Int)] 50
                      obtain ⟨Q, hQ⟩ : ∃ X, v8.heap.size = X := ⟨_, rfl⟩
                      rw [hQ] at hl9
                      have HR9 := hid (HR8.out.grow hb9)
                      have KN9 := hid (keep_laid KN8.out hb9)
                      have HNR9 := hid (own_grow HNR8.out hb9)
                      have HWS := hid (Words_any 0 [(t0, t1, t2, t3)] (some ⟨Q, 0, none⟩) 1 1 w9 (by decide) (Leads.of_own1 (own_lit (base := 0) (n := 1) (size := 4) (xs := ndcells [(t0, t1, t2, t3)]) hl9 (Nat.zero_le _) (by decide) rfl rfl)) rfl (by decide) (by intro x hx; rw [List.mem_singleton] at hx; subst hx; show t0 < _; omega))
                      rw [wordsL_one (t := (t0, t1, t2, t3)) ht04] at HWS
                      have n0 := cell_laid (i := 0) KN8.out rfl
                      have n1 := cell_laid (i := 1) KN8.out rfl
                      have n2 := cell_laid (i := 2) KN8.out rfl
                      have n3 := cell_laid (i := 3) KN8.out rfl
                      clear hb9 hs9 hl9 HR8 KN8 HNR8
                      go_wp2_with fail
                      refine HWS.out.mono ?_
                      rintro e w10 ⟨vw, rfl, hroww, hb10⟩
                      have HR10 := hid (HR9.out.grow hb10)
                      have KN10 := hid (keep_laid KN9.out hb10)
                      have HNR10 := hid (own_grow HNR9.out hb10)
                      have hlt10 := fun q hq => (HR9.out.r10.lt q hq).2
                      obtain ⟨g, gc, rfl, hgb, hgl⟩ := own_blk hroww (by show 0 < 5; decide)
                      obtain ⟨cur, hcur, hgc, hct⟩ : ∃ cur, w10.heap[g]? = some (.cells cur 3 (0, 0)) ∧ 5 ≤ gc ∧ cur.toList.take 5 = ncells [0, t0, t0 + 1, t0 + 2, t0 + 3] := by
                        obtain ⟨-, ⟨q, -⟩ | ⟨g', cap', cur, q, -, hh, q1, -, q3, q4⟩⟩ := hroww
                        · cases q
                        · cases q; exact ⟨cur, hh, q1, q4⟩
                      have hgcm := (Leads.of_own1 hroww).len.2
                      have KG10 := hid hcur
                      have HCT := hid hct
                      have HVG : Hid (∀ q, Value.ownBlock v10 = some q → q ≠ g) := hid (fun q hq => by have := hlt10 q hq; omega)
                      clear hb10 hroww hcur hct n0 n1 n2 n3 HR9 KN9 HNR9 HWS hlt10 hQ
                      have hgc1 : ¬ gc = 1 := by omega
                      have hgc1' : (1 : Nat) ≤ gc := by omega
                      have hgc2 : (5 : Int) ≤ ((gc : Nat) : Int) := by omega
                      subst e11
                      go_wp2
                      go_loopg [10, 85] 4 (fun g' t10 t85 wr => ∃ (j : Nat) (met2 : List Nat), t85 = .int .i64 ((j : Nat) : Int) ∧ Hid (j + g' = 4) ∧ Hid (Rr V X #[.slice wa M.W.length wc, .slice la M.L.length lc, .bool M.F] out met2 (.slice xa ol xc) t10 wr) ∧ Hid (takeN M (t0 + j) g' met2 = tmeet M t0 4 met) ∧ Hid (met2.length = met.length + j) ∧ Hid (wr.heap[g]? = some (.cells cur 3 (0, 0))) ∧ Hid (wr.ownsRow bs 50 4 (.slice (some ⟨b', off', none⟩) n nc) n (ndcells ns)) ∧ Hid (wr.heap[N]? = some (.cells #[.int .u64 ((t0 : Nat) : Int), .int .u64 ((t1 : Nat) : Int), .int .u64 ((t2 : Nat) : Int), .int .u64 ((t3 : Nat) : Int)] 50 (0, 0))) ∧ Hid (∀ q, Value.ownBlock t10 = some q → q ≠ g))
                      case atStart => exact ⟨0, met, rfl, hid (by omega), HR10, hid (by unfold tmeet; rw [if_neg (by omega)]; rfl), hid rfl, KG10, HNR10, KN10, HVG⟩
                      case round =>
                        clear HR10 KG10 HNR10 KN10 HVG
                        obtain ⟨j, met2, rfl, hj, hR, hT, hml, hKG, hNR, hKN, hVG⟩ := hrel
                        have HJ := hj
                        obtain ⟨va, vc, e10, -⟩ := Leads.of_own hR.out.r10
                        obtain ⟨m2, hm2⟩ : ∃ x, met2.length = x := ⟨_, rfl⟩
                        rw [hm2] at e10
                        have HM2 := hid hm2
                        have hm2l : m2 ≤ 10000 := by have := hml.out; have := hj.out; omega
                        clear hm2
                        subst e10
                        by_cases hj4 : j < 4
                        · obtain ⟨g1', hg1'⟩ : ∃ x, gk = x + 1 := ⟨gk - 1, by have := hj.out; omega⟩
                          have HG1' := hid hg1'
                          obtain ⟨s, hs⟩ : ∃ s, t0 + j = s := ⟨_, rfl⟩
                          have HS := hid hs
                          have hT2 := hT.out
                          rw [hg1', hs] at hT2
                          unfold takeN at hT2
                          have HT2 := hid hT2
                          have hlv : liveN M s = true := by rw [← hs]; exact HLIV.out j hj4
                          have HLV := hid hlv
                          have hcj : cur[1 + j]? = some (.int .i64 ((s : Nat) : Int)) := by
                            have := congrArg (fun l => l[1 + j]?) HCT.out
                            simp only [List.getElem?_take, if_pos (show 1 + j < 5 by omega), Array.getElem?_toList] at this
                            rw [this, ← hs]
                            rcases (by omega : j = 0 ∨ j = 1 ∨ j = 2 ∨ j = 3) with rfl | rfl | rfl | rfl <;> rfl
                          have c1 : wr.cell? ⟨g, 1 + j, none⟩ = some (.int .i64 ((s : Nat) : Int)) := cell_laid hKG.out hcj
                          have hs5 : s ≤ 5000 := by omega
                          have t5 : decide (((j : Nat) : Int) < 4) = true := decide_eq_true (by omega)
                          have t5' : ((j : Nat) : Int) < 4 := by omega
                          have HHS := hid (rhas19_any met2 va m2 vc s wr (by have hx := hR.out.r10; rw [HM2.out] at hx; exact Leads.of_own1 hx) HM2.out)
                          clear hg1' hs hT2 hT hlv hcj hj
                          go_wp2_with fail
                          refine HHS.out.mono ?_
                          rintro e wq ⟨rfl, hwq⟩
                          rw [hwq]
                          clear hwq HHS c1
                          by_cases hsm : s ∈ met2
                          · have HN : Hid (RES = none) := hid (by
                              rw [← HL2.out]
                              refine leftR_none ?_
                              rw [← HT2.out]
                              unfold freeB
                              rw [HLV.out, decide_eq_true hsm]; rfl)
                            rw [decide_eq_true hsm]
                            have HBW := hid hR.out.below
                            clear hsm hR hKG hNR hKN
                            go_wp2
                            refine bodyPost_ret (results_tmp3 rfl _ _ _) rfl ?_
                            exact ⟨HBW.out, .inl ⟨HN.out, rfl⟩⟩
                          · have HT3 : Hid (takeN M (s + 1) g1' (met2 ++ [s]) = tmeet M t0 4 met) := hid (by
                              rw [← HT2.out]
                              unfold freeB
                              rw [HLV.out, decide_eq_false hsm]; rfl)
                            rw [decide_eq_false hsm]
                            obtain ⟨w6, hw6, hb6, hs6, hl6⟩ := laid wr #[.int .i64 ((s : Nat) : Int)] 3
                            obtain ⟨Z, hZ⟩ : ∃ X, wr.heap.size = X := ⟨_, rfl⟩
                            rw [hZ] at hl6
                            have HLZ := hid hl6
                            have HR6' := hid (hR.out.grow hb6)
                            have KG6 := hid (keep_laid hKG.out hb6)
                            have KN6' := hid (keep_laid hKN.out hb6)
                            have HNR6' := hid (own_grow hNR.out hb6)
                            have hgw6 : g < w6.heap.size := lt_laid KG6.out
                            have HOW : Hid (w6.ownsRow V.heap.size 3 1 (.slice va m2 vc) m2 (ncells met2)) := hid (by have := HR6'.out.r10; rw [HM2.out] at this; exact this)
                            clear hb6 hs6 hl6 hsm hR hKG hNR hKN
                            go_wp2_with ((with_reducible show wpList _ _ _ _ _ _); refine wp_appendM elemInts rfl (.tmp 92) (.tmp 94) rfl V.heap.size (.slice va m2 vc) m2 (ncells met2) rfl HOW.out ⟨Z, 0, none⟩ 1 1 [.int .i64 ((s : Nat) : Int)] rfl rfl ?c1 ?c2 ?c3 ?c4 ?c5)
                            case c1 => intro j u hj; refine cell_add (o := 0) (by rw [Nat.zero_add]; exact cell_laid HLZ.out (by simpa using hj))
                            case c2 => first | (intro u hu; simp at hu; subst hu; rfl) | omega
                            try (case c3 => omega)
                            try (case c4 => exact HR6'.out.below.size)
                            case c5 =>
                              intro v' w8' ho hg hmv
                              have HR8' := hid (HR6'.out.app10 (q := s) (v := v') (by rw [HM2.out]; exact ho) hg)
                              have KG8' := hid (keep_grown KG6.out hg (fun e => hVG.out g e rfl))
                              have KN8' := hid (keep_grown KN6'.out hg (own_ne HOW.out KN6'.out (by decide)))
                              have HNR8' := hid (own_own HOW.out HNR6'.out (by decide) hg)
                              have HVG8 := hid (moved_ne hmv hVG.out hgw6)
                              have HML8 : Hid ((met2 ++ [s]).length = met.length + (j + 1)) := hid (by rw [List.length_append, hml.out]; simp; omega)
                              obtain ⟨x9', y9', e9, -⟩ := Leads.of_own ho
                              subst e9
                              clear ho hg hmv HR6' HLZ HOW KG6 KN6' HNR6' hZ hVG hml
                              go_wp2
                              go_roundg g1'
                              case measure => have := HG1'.out; omega
                              case rel => exact ⟨j + 1, met2 ++ [s], by go_num, hid (by have := HJ.out; have := HG1'.out; omega), HR8', hid (by rw [show t0 + (j + 1) = s + 1 by have := HS.out; omega]; exact HT3.out), HML8, KG8', HNR8', KN8', HVG8⟩
                        · have hj4' : j = 4 := by have := hj.out; omega
                          have hgk0 : gk = 0 := by have := hj.out; omega
                          have t5 : decide (((j : Nat) : Int) < 4) = false := decide_eq_false (by omega)
                          have t5' : ¬ ((j : Nat) : Int) < 4 := by omega
                          have hT4 : tmeet M t0 4 met = some met2 := by have := hT.out; rw [hgk0] at this; exact this.symm
                          have HL3 : Hid (leftR M a d b g1 (ns.drop (i + 1)) met2 (out ++ [(b, t0, t1, t2)]) = RES) := hid (by
                            rw [← HL2.out, leftR_good (t := (t0, t1, t2, t3)) hT4 (by show ofN t1 d = b; rw [HO.out]; exact HCND.out.1) (by show hashN t1 = t3; rw [HHH.out]; exact HCND.out.2.symm)]
                            rfl)
                          have HMR2 : Hid (MetR M.W.length (out ++ [(b, t0, t1, t2)]) met2) := hid (by
                            obtain ⟨o1, o2⟩ := hMR.out.ok.meet HMN.out hT4
                            have := hMR.out.len
                            exact ⟨o1, by rw [List.length_append, o2]; simp; omega⟩)
                          have n0 := cell_laid (i := 0) hKN.out rfl
                          have n1 := cell_laid (i := 1) hKN.out rfl
                          have n2 := cell_laid (i := 2) hKN.out rfl
                          obtain ⟨w6, hw6, hb6, hs6, hl6⟩ := laid wr #[.int .i64 ((b : Nat) : Int), .int .u64 ((t0 : Nat) : Int), .int .u64 ((t1 : Nat) : Int), .int .u64 ((t2 : Nat) : Int)] 73
                          obtain ⟨Z, hZ⟩ : ∃ X, wr.heap.size = X := ⟨_, rfl⟩
                          rw [hZ] at hl6
                          have HLZ := hid hl6
                          have HR6' := hid (hR.out.grow hb6)
                          have HNR6' := hid (own_grow hNR.out hb6)
                          have HOW : Hid (w6.ownsRow V.heap.size 73 4 (.slice xa ol xc) ol (rwcells out)) := hid (by have := HR6'.out.r11; rw [HOL.out] at this; exact this)
                          clear hb6 hs6 hl6 hR hKG hNR hKN hT hj hT4 hj4' hgk0 hVG hml
                          go_wp2_with ((with_reducible show wpList _ _ _ _ _ _); refine wp_appendM elemRw rfl (.tmp 97) (.tmp 106) rfl V.heap.size (.slice xa ol xc) ol (rwcells out) rfl HOW.out ⟨Z, 0, none⟩ 1 1 (rw4 (b, t0, t1, t2)) rfl rfl ?c1 ?c2 ?c3 ?c4 ?c5)
                          case c1 => intro j u hj; have h := cell_laid (i := j) HLZ.out (by simpa [rw4] using hj); first | exact h | exact cell_add (o := 0) (by rw [Nat.zero_add]; exact h)
                          case c2 => first | (intro u hu; simp only [rw4, List.mem_cons, List.not_mem_nil, or_false] at hu; rcases hu with rfl | rfl | rfl | rfl <;> rfl) | omega
                          try (case c3 => omega)
                          try (case c4 => exact HR6'.out.below.size)
                          case c5 =>
                            intro v' w8' ho hg hmv
                            have HR8' := hid (HR6'.out.app11 (t := (b, t0, t1, t2)) (v := v') (by rw [HOL.out]; exact ho) hg)
                            have HNR8' := hid (own_own HOW.out HNR6'.out (by decide) hg)
                            obtain ⟨x9', y9', e9, -⟩ := Leads.of_own ho
                            subst e9
                            clear ho hg hmv HR6' HLZ HOW HNR6' hZ n0 n1 n2
                            go_wp2
                            go_roundg (n - (i + 1))
                            case measure => have := HI.out; omega
                            case rel => exact ⟨i + 1, met2, out ++ [(b, t0, t1, t2)], _, _, by go_num, rfl, rfl, hid (by have := HI.out; omega), HR8', HMR2, HL3, HNR8'⟩
                    · have e4 : (((o : Nat) : Int) != ((b : Nat) : Int)) = true := by simp; omega
                      have HN : Hid (RES = none) := hid (by rw [← HL2.out]; exact leftR_bad (fun h => hob (by rw [← HO.out]; exact h.1)))
                      clear hob hh3
                      have n1 : ∀ z : Ext w7, z.v.cell? ⟨N, 1, none⟩ = some (.int .u64 ((t1 : Nat) : Int)) := fun z => cell_laid (i := 1) (keep_laid KN7.out z.b) rfl
                      have n3 : ∀ z : Ext w7, z.v.cell? ⟨N, 3, none⟩ = some (.int .u64 ((t3 : Nat) : Int)) := fun z => cell_laid (i := 3) (keep_laid KN7.out z.b) rfl
                      refine wp_region_ext (by kernel_rfl) (by kernel_rfl) ?_
                      repeat (go_big_quiet_step (first | (go_at_call 35; exact ext_of (HHK.out _)) | (go_at_call 36; exact ext_of (HOFK.out _))))
                      refine wpQuiet_nil ?_
                      rintro v8 ⟨x8, e8⟩
                      have hb8 := x8.b
                      rw [← e8] at hb8
                      clear e8 x8 n1 n3
                      have HR8 := hid (HR7.out.grow hb8)
                      have KN8 := hid (keep_laid KN7.out hb8)
                      have HNR8 := hid (own_grow HNR7.out hb8)
                      clear hb8 HR7 KN7 HNR7
                      go_wp2
                      refine bodyPost_ret (results_tmp3 rfl _ _ _) rfl ?_
                      exact ⟨HR8.out.below, .inl ⟨HN.out, rfl⟩⟩
                  · have e3 : (((t3 : Nat) : Int) != ((hsh : Nat) : Int)) = true := by simp; omega
                    have HN : Hid (RES = none) := hid (by rw [← HL2.out]; exact leftR_bad (fun h => hh3 (by rw [← HHH.out]; exact h.2.symm)))
                    clear hh3
                    have n1 : ∀ z : Ext w7, z.v.cell? ⟨N, 1, none⟩ = some (.int .u64 ((t1 : Nat) : Int)) := fun z => cell_laid (i := 1) (keep_laid KN7.out z.b) rfl
                    have n3 : ∀ z : Ext w7, z.v.cell? ⟨N, 3, none⟩ = some (.int .u64 ((t3 : Nat) : Int)) := fun z => cell_laid (i := 3) (keep_laid KN7.out z.b) rfl
                    refine wp_region_ext (by kernel_rfl) (by kernel_rfl) ?_
                    repeat (go_big_quiet_step (first | (go_at_call 35; exact ext_of (HHK.out _)) | (go_at_call 36; exact ext_of (HOFK.out _))))
                    refine wpQuiet_nil ?_
                    rintro v8 ⟨x8, e8⟩
                    have hb8 := x8.b
                    rw [← e8] at hb8
                    clear e8 x8 n1 n3
                    have HR8 := hid (HR7.out.grow hb8)
                    have KN8 := hid (keep_laid KN7.out hb8)
                    have HNR8 := hid (own_grow HNR7.out hb8)
                    clear hb8 HR7 KN7 HNR7
                    go_wp2
                    refine bodyPost_ret (results_tmp3 rfl _ _ _) rfl ?_
                    exact ⟨HR8.out.below, .inl ⟨HN.out, rfl⟩⟩
                · have hg0 : i = n := by have := hi.out; omega
                  have t4 : decide (((i : Nat) : Int) < ((n : Nat) : Int)) = false := decide_eq_false (by omega)
                  have t4' : ¬ ((i : Nat) : Int) < ((n : Nat) : Int) := by omega
                  have HGO : Hid (bucketsGo M a d g1 (b + 1) met out = RES) := hid (by have := hL.out; rw [hg0, List.drop_of_length_le (by rw [HNN.out]; exact Nat.le_refl _)] at this; exact this)
                  have HR9 := hR
                  have HM9 := hMR
                  clear hg0 hL hi hR hMR hNR
                  go_wp2
                  go_roundg g1
                  case measure => have := HG1.out; omega
                  case rel => exact ⟨b + 1, met, out, by go_num, hid (by have := HBG.out; have := HG1.out; omega), HR9, HM9, HGO⟩
          · have hg0 : gk = 0 := by have := hb.out; omega
            have t1 : decide (((b : Nat) : Int) < ((p : Nat) : Int)) = false := decide_eq_false (by omega)
            have t1' : ¬ ((b : Nat) : Int) < ((p : Nat) : Int) := by omega
            have HE : Hid (RES = some (out, met)) := hid (by have := hG.out; rw [hg0] at this; exact this.symm)
            have HR9 := hR
            clear hg0 hG hb hR hMR
            go_wp2
            refine bodyPost_ret (results_tmp3 rfl _ _ _) rfl ?_
            exact ⟨HR9.out.below, .inr ⟨out, met, _, _, HE.out, rfl, HR9.out.r11, HR9.out.r10⟩⟩
end Go.Proofs.YtahicokokfcieaaGreatDoor
