/- The document's answer for layer 3: the words of a script. -/
import Derived.Test.YtpehnahmdfoobaaDoorScript20
import Derived.Test.YtpehnahmdfoobaaDoorScriptPlain4
import Derived.Test.YtpehnahmdfoobaaDoorScriptRef1
namespace Go.Proofs.YtpehnahmdfoobaaDoor
open Go.RowKit
open Go.Proofs
set_option linter.unusedVariables false

/-- A call gives a row of words. -/
def GivesL (l : List Nat) (w : World) (e : Ending) (W : World) : Prop := ∃ a c, e = .returned (.slice a l.length c) ∧ Leads W a l.length c (wcells l) ∧ Below w.heap.size w W
theorem wcells_app3 (l r : List Nat) : wcells (l ++ r) = wcells l ++ wcells r := by simp [wcells]
theorem wcells_one3 (l : List Nat) : ∀ u ∈ wcells l, u.oneCell' = true := by
  intro u hu
  obtain ⟨x, -, rfl⟩ := List.mem_map.1 hu
  rfl
theorem take_snoc3 {α : Type} {l : List α} {k : Nat} {x : α} (h : l[k]? = some x) : l.take (k + 1) = l.take k ++ [x] := by rw [List.take_add_one, h]; rfl
def callsW (cpu : Nat) (cs : List (List Nat)) : List Nat := cs.flatMap fun q => wdC cpu :: q
theorem callsW_len (cpu : Nat) (cs : List (List Nat)) (h5 : ∀ q ∈ cs, q.length = 5) : (callsW cpu cs).length = cs.length * 6 := flatW_len cpu cs h5
theorem callsW_snoc (cpu : Nat) (cs : List (List Nat)) (q : List Nat) : callsW cpu (cs ++ [q]) = callsW cpu cs ++ (wdC cpu :: q) := by unfold callsW; rw [List.flatMap_append]; simp
theorem listW_next {ls : List (List (List Nat))} {k : Nat} {cs : List (List Nat)} (h : ls[k]? = some cs) : listW 0 (ls.take (k + 1)) = listW 0 (ls.take k) ++ callsW k cs := by
  have hk := (List.getElem?_eq_some_iff.1 h).1
  rw [take_snoc3 h, listW_snoc, List.length_take, Nat.min_eq_left (by omega), Nat.zero_add]; rfl
theorem runW_next {ps : List (Int × Nat)} {j : Nat} {p : Int × Nat} (h : ps[j]? = some p) : runW (ps.take (j + 1)) = runW (ps.take j) ++ [wdR p.1.toNat (p.2 - 1)] := by
  unfold runW
  rw [take_snoc3 h, List.map_append]; rfl
theorem sum_take_le (ls : List (List (List Nat))) (k : Nat) : sumS (ls.take k) ≤ sumS ls := by
  have e := congrArg sumS (List.take_append_drop k ls)
  rw [sumS_app] at e
  omega

set_option maxRecDepth 100000 in
set_option maxHeartbeats 4000000 in
theorem RefWords_any (S : Scr) (la pa : Option Addr) (lc pc : Nat) (vs : List Value) (w : World) (h : ScrL w la lc vs pa pc S) (hS : S.Ok) (hyes : okS S = true) :
    Calls Tryd.prog 22 #[scrV la lc pa pc S] w (GivesL (ofW S) w) := by
  obtain ⟨C, P, eC, eP, hC1, hC8, hP1, hP64, hnl, hnp, hsum, hpk⟩ := okS_spec hyes
  have hfew := (okS_few hyes).2
  obtain ⟨w1, hw1, hb1, hs1, hl1⟩ := laid w #[.int .i64 S.C, .int .i64 S.P, .slice la S.ls.length lc, .slice pa S.ps.length pc] 35
  obtain ⟨X, hX⟩ : ∃ X, w.heap.size = X := ⟨_, rfl⟩
  rw [hX] at hl1
  have HX := hid hl1
  have a0 := cell_laid (i := 0) hl1 rfl
  have a1 := cell_laid (i := 1) hl1 rfl
  have a2 := cell_laid (i := 2) hl1 rfl
  have HSL := hid (h.grow hb1)
  have HB1 := hid hb1
  have hps := h.picks.len
  have hls := h.lists.len
  obtain ⟨C', P', ls, ps⟩ := S
  dsimp only at eC eP hnl hnp hsum hpk hls hps hfew
  subst eC
  subst eP
  unfold scrV
  unfold ofW
  dsimp only at *
  have HF5 : Hid (∀ cs ∈ ls, ∀ q ∈ cs, q.length = 5) := hid hS.five
  have HFW : Hid (∀ cs ∈ ls, ∀ q ∈ cs, ∀ v ∈ q, v < 18446744073709551616) := hid hS.word
  clear h hl1 hs1 hS hyes
  obtain ⟨np, hnp2⟩ : ∃ np, ps.length = np := ⟨_, rfl⟩
  obtain ⟨nl, hnl2⟩ : ∃ nl, ls.length = nl := ⟨_, rfl⟩
  have HNL := hid hnl2
  have HNP := hid hnp2
  have HLA := hid HSL.out.lists
  have HPA := hid HSL.out.picks
  have HVL := hid HSL.out.len
  dsimp only at HLA HPA HVL
  have HXX := HX
  rw [hnl2] at hw1 a2 HLA HVL HX hls
  rw [hnp2] at hw1 HPA HX hps hnp
  rw [hnl2, hnp2]
  have hnl8 : nl ≤ 8 := by omega
  have HPK := hid hpk
  have HSUM := hid hsum
  have HFEW := hid hfew
  obtain ⟨c1, hc1⟩ : ∃ c1 : Nat, (((C : Nat) : Int) - 1).toNat = c1 := ⟨_, rfl⟩
  obtain ⟨p1, hp1⟩ : ∃ p1 : Nat, (((P : Nat) : Int) - 1).toNat = p1 := ⟨_, rfl⟩
  rw [hc1, hp1]
  have hc1I : ((C : Nat) : Int) - 1 = ((c1 : Nat) : Int) := by omega
  have hp1I : ((P : Nat) : Int) - 1 = ((p1 : Nat) : Int) := by omega
  obtain ⟨w0, hw0⟩ : ∃ w0, wdA c1 p1 = w0 := ⟨_, rfl⟩
  rw [hw0]
  have hw0I : ((c1 : Nat) : Int) + 256 * ((p1 : Nat) : Int) = ((w0 : Nat) : Int) := by rw [← hw0]; unfold wdA; omega
  have hw0l : w0 < 65536 := by rw [← hw0]; unfold wdA; omega
  have hc1l : c1 ≤ 8 := by omega
  have hp1l : p1 ≤ 64 := by omega
  clear hnl hnl2 hnp2 hsum hpk hfew hc1 hp1 hw0 HXX
  obtain ⟨w2, hw2, hb2, hs2, hl2⟩ := laid w1 #[.int .u64 ((w0 : Nat) : Int)] 32
  obtain ⟨M, hM⟩ : ∃ M, w1.heap.size = M := ⟨_, rfl⟩
  rw [hM] at hl2 hs2
  have HO2 : Hid (w2.ownsRow w1.heap.size 32 1 (.slice (some ⟨M, 0, none⟩) 1 1) 1 (wcells [w0])) := hid (by
    refine ⟨by simp [wcells], .inr ⟨M, 1, _, rfl, by omega, hl2, Nat.le_refl _, by decide, by simp, ?_⟩⟩
    simp [wcells])
  have HB2 := hid hb2
  have a22 : w2.cell? ⟨X, 2, none⟩ = some (.slice la nl lc) := (hb2.cell (p := ⟨X, 2, none⟩) (lt_laid HX.out)).trans a2
  have a23 : w2.cell? ⟨X, 3, none⟩ = some (.slice pa np pc) := (hb2.cell (p := ⟨X, 3, none⟩) (lt_laid HX.out)).trans (cell_laid (i := 3) HX.out rfl)
  clear hb2 hl2 hs2
  go_enter Tryd.func22, Tryd.ntmps22
  go_wp2
  go_loopg [3, 24] nl (fun g t3 i V => ∃ (k : Nat) (va : Option Addr) (vc : Nat), g + k = nl ∧ i = .int .i64 (k : Nat) ∧ t3 = .slice va (w0 :: listW 0 (ls.take k)).length vc ∧ Hid (V.ownsRow w1.heap.size 32 1 (.slice va (w0 :: listW 0 (ls.take k)).length vc) (w0 :: listW 0 (ls.take k)).length (wcells (w0 :: listW 0 (ls.take k)))) ∧ Below w1.heap.size w1 V)
  case atStart => exact ⟨0, some ⟨M, 0, none⟩, 1, rfl, rfl, rfl, HO2, HB2.out⟩
  case round =>
    obtain ⟨k, va, vc, hk, rfl, rfl, ho, hb⟩ := hrel
    have HK := hid hk
    clear hk hM a0 a1 a2 a22 a23
    obtain ⟨O, hO⟩ : ∃ O, w0 :: listW 0 (ls.take k) = O := ⟨_, rfl⟩
    rw [hO] at ho
    rw [hO]
    have HO := hid hO
    have HBK := hid hb
    by_cases hlt : k < nl
    · obtain ⟨cs, hck⟩ : ∃ x, ls[k]? = some x := ⟨_, List.getElem?_eq_getElem (by rw [HNL.out]; exact hlt)⟩
      obtain ⟨v, hvk⟩ : ∃ x, vs[k]? = some x := ⟨_, List.getElem?_eq_getElem (by rw [HVL.out]; exact hlt)⟩
      obtain ⟨b1, o1, rfl, hb1lt, hc1⟩ := HLA.out.at hlt hvk
      obtain ⟨ca, cc, rfl, hLv⟩ := HSL.out.rows k v cs hvk hck
      have hcl := hLv.len
      obtain ⟨nc, hnc⟩ : ∃ nc, cs.length = nc := ⟨_, rfl⟩
      have f1 := hc1 wr hb
      rw [hnc] at f1 hLv hcl
      have HLV := hid hLv
      have HNC := hid hnc
      have HCK := hid hck
      have hX5 : Hid (∀ q ∈ cs, q.length = 5) := hid fun q hq => HF5.out cs (List.mem_of_getElem? hck) q hq
      have hXW : Hid (∀ q ∈ cs, ∀ v ∈ q, v < 18446744073709551616) := hid fun q hq => HFW.out cs (List.mem_of_getElem? hck) q hq
      have hnc1 : nc ≤ 1000 := by rw [← hnc]; exact HFEW.out cs (List.mem_of_getElem? hck)
      have hOlen : O.length ≤ 500 := by
        rw [← hO, List.length_cons, listW_len _ 0 (fun cs hcs => HF5.out cs (List.mem_of_mem_take hcs))]
        have := sum_take_le ls k
        have := HSUM.out
        omega
      obtain ⟨wk, hwk⟩ : ∃ wk, wdC k = wk := ⟨_, rfl⟩
      have hwkI : 1 + 256 * ((k : Nat) : Int) = ((wk : Nat) : Int) := by rw [← hwk]; unfold wdC; omega
      have hwkl : wk < 65536 := by rw [← hwk]; unfold wdC; omega
      have HWK := hid hwk
      clear hvk hck hc1 hLv hnc hO hwk hb
      go_wp2
      obtain ⟨G, hG⟩ : ∃ G, gk - 1 = G := ⟨_, rfl⟩
      have HG := hid hG
      clear hG f1
      go_loopg [3, 31] nc (fun g t3 i V => ∃ (j : Nat) (va : Option Addr) (vc : Nat), g + j = nc ∧ i = .int .i64 (j : Nat) ∧ t3 = .slice va (O ++ callsW k (cs.take j)).length vc ∧ Hid (V.ownsRow w1.heap.size 32 1 (.slice va (O ++ callsW k (cs.take j)).length vc) (O ++ callsW k (cs.take j)).length (wcells (O ++ callsW k (cs.take j)))) ∧ Below w1.heap.size w1 V)
      case atStart =>
        have e : O ++ callsW k (cs.take 0) = O := by simp [callsW]
        exact ⟨0, va, vc, rfl, rfl, by rw [e], by rw [e]; exact ho, HBK.out⟩
      case round =>
        obtain ⟨j, va, vc, hj, rfl, rfl, ho, hbj⟩ := hrel
        have HJ := hid hj
        clear hj
        obtain ⟨O1, hO1⟩ : ∃ O1, O ++ callsW k (cs.take j) = O1 := ⟨_, rfl⟩
        rw [hO1] at ho
        rw [hO1]
        have HO1 := hid hO1
        by_cases hlj : j < nc
        · obtain ⟨x, hxk⟩ : ∃ x, cs[j]? = some x := ⟨_, List.getElem?_eq_getElem (by rw [HNC.out]; exact hlj)⟩
          have hwx : ∃ b off, ca = some ⟨b, off, none⟩ ∧ ∀ (V : World), Below w1.heap.size w1 V → ∀ i v, x[i]? = some v → V.cell? ⟨b, off + j * 5 + i, none⟩ = some (.int .u64 ((v : Nat) : Int)) := by
            obtain ⟨_, _, ⟨h0, _⟩ | ⟨b, off, ea, hlt, hc⟩⟩ := HLV.out
            · omega
            · exact ⟨b, off, ea, fun V hV i v hi => (hV.cell (p := ⟨b, off + j * 5 + i, none⟩) hlt).trans (by rw [Nat.add_assoc]; exact hc _ _ (wflat_at hX5.out hxk hi))⟩
          obtain ⟨b, off, rfl, hcx⟩ := hwx
          have hxw := hXW.out x (List.mem_of_getElem? hxk)
          obtain ⟨x0, x1, x2, x3, x4, rfl⟩ := five_ex (hX5.out x (List.mem_of_getElem? hxk))
          have q0 : wr.cell? ⟨b, off + j * 5, none⟩ = some (.int .u64 ((x0 : Nat) : Int)) := hcx _ hbj 0 x0 rfl
          have q1 : wr.cell? ⟨b, off + j * 5 + 1, none⟩ = some (.int .u64 ((x1 : Nat) : Int)) := hcx _ hbj 1 x1 rfl
          have q2 : wr.cell? ⟨b, off + j * 5 + 2, none⟩ = some (.int .u64 ((x2 : Nat) : Int)) := hcx _ hbj 2 x2 rfl
          have q3 : wr.cell? ⟨b, off + j * 5 + 3, none⟩ = some (.int .u64 ((x3 : Nat) : Int)) := hcx _ hbj 3 x3 rfl
          have q4 : wr.cell? ⟨b, off + j * 5 + 4, none⟩ = some (.int .u64 ((x4 : Nat) : Int)) := hcx _ hbj 4 x4 rfl
          obtain ⟨w4, hw4, hb4, hs4, hl4⟩ := laid wr #[.int .u64 ((x0 : Nat) : Int), .int .u64 ((x1 : Nat) : Int), .int .u64 ((x2 : Nat) : Int), .int .u64 ((x3 : Nat) : Int), .int .u64 ((x4 : Nat) : Int)] 53
          obtain ⟨Q, hQ⟩ : ∃ Q, wr.heap.size = Q := ⟨_, rfl⟩
          rw [hQ] at hl4 hs4
          have m0 := cell_laid (i := 0) hl4 rfl
          have m1 := cell_laid (i := 1) hl4 rfl
          have m2 := cell_laid (i := 2) hl4 rfl
          have m3 := cell_laid (i := 3) hl4 rfl
          have m4 := cell_laid (i := 4) hl4 rfl
          obtain ⟨w5, hw5, hb5, hs5, hl5⟩ := laid w4 #[.int .u64 ((wk : Nat) : Int), .int .u64 ((x0 : Nat) : Int), .int .u64 ((x1 : Nat) : Int), .int .u64 ((x2 : Nat) : Int), .int .u64 ((x3 : Nat) : Int), .int .u64 ((x4 : Nat) : Int)] 32
          rw [hs4] at hl5 hs5
          have HB5 := hid (step (step hbj hb4) hb5)
          have HO5 := hid (own_grow (own_grow ho.out hb4) hb5)
          have HL5 := hid hl5
          have hsz : w1.heap.size ≤ w5.heap.size := HB5.out.size
          have hO1len : O1.length ≤ 7000 := by
            rw [← hO1, List.length_append, callsW_len k _ (fun q hq => hX5.out q (List.mem_of_mem_take hq)), List.length_take, HNC.out]
            omega
          have HXK := hid hxk
          clear hcx hxk hxw hl4 hl5 hb4 hb5 hbj ho hO1
          go_wp2_with ((with_reducible show wpList _ _ _ _ _ _); refine wp_appendM elemWords rfl (.tmp 35) (.tmp 54) rfl w1.heap.size (.slice va O1.length vc) O1.length (wcells O1) rfl HO5.out ⟨Q + 1, 0, none⟩ 6 6 (wcells [wk, x0, x1, x2, x3, x4]) rfl rfl ?c1 ?c2 ?c3 ?c4 ?c5)
          case c1 =>
            intro i u hu
            refine cell_add ?_
            rw [Nat.zero_add]
            exact cell_laid HL5.out (by simpa [wcells] using hu)
          case c2 => exact wcells_one3 _
          case c3 => omega
          case c4 => exact hsz
          case c5 =>
            intro v' W' ho' hg' hm'
            have HO9 : Hid (W'.ownsRow w1.heap.size 32 1 v' (O ++ callsW k (cs.take (j + 1))).length (wcells (O ++ callsW k (cs.take (j + 1))))) := hid (by
              rw [take_snoc3 HXK.out, callsW_snoc, HWK.out, ← List.append_assoc, HO1.out, wcells_app3, List.length_append]; exact ho')
            have HB9 := hid (HB5.out.trans (own_below HO5.out hg' hsz))
            obtain ⟨va9, vc9, rfl, -⟩ := Leads.of_own HO9.out
            clear ho' hg' hm'
            go_wp2
            go_roundg (gk - 1)
            case measure => have := HJ.out; omega
            case rel => exact ⟨j + 1, _, _, by have := HJ.out; omega, by go_num, rfl, HO9, HB9.out⟩
        · have e := HJ.out
          obtain rfl : j = nc := by omega
          have hO1e : O1 = w0 :: listW 0 (ls.take (k + 1)) := by
            rw [← hO1, List.take_of_length_le (by rw [HNC.out]; exact Nat.le_refl _), listW_next HCK.out, ← List.cons_append, HO.out]
          have HBJ := hid hbj
          have HE := hid hO1e
          clear e HJ hbj hO1 hO1e
          go_wp2
          go_roundg G
          case measure => have := HG.out; have := HK.out; omega
          case rel => exact ⟨k + 1, va, vc, by have := HG.out; have := HK.out; omega, by go_num, by rw [HE.out], by rw [← HE.out]; exact ho, HBJ.out⟩
    · have e := HK.out
      obtain rfl : k = nl := by omega
      have hOe : O = w0 :: listW 0 ls := by rw [← hO, List.take_of_length_le (by rw [HNL.out]; exact Nat.le_refl _)]
      have HOE := hid hOe
      have hOlen : O.length ≤ 500 := by
        rw [hOe, List.length_cons, listW_len _ 0 HF5.out]
        have := HSUM.out
        omega
      have b3 : wr.cell? ⟨X, 3, none⟩ = some (.slice pa np pc) := (hb.cell (p := ⟨X, 3, none⟩) (lt_laid HX.out)).trans (cell_laid (i := 3) HX.out rfl)
      have HRR := hid (RefRuns_any ps pa np pc wr HNP.out (by omega) (HPA.out.grow hb))
      clear e HK hO hOe HO hb
      go_wp2_with fail
      refine HRR.out.mono ?_
      rintro e w6 ⟨rv, rfl, hor, hb6⟩
      obtain ⟨rs, hrs⟩ : ∃ rs, runsL ps = rs := ⟨_, rfl⟩
      rw [hrs] at hor
      obtain ⟨ra, rc, rfl, hlr⟩ := Leads.of_own hor
      obtain ⟨nr, hnr⟩ : ∃ nr, rs.length = nr := ⟨_, rfl⟩
      have hnr5 : nr ≤ 4096 := by rw [← hnr, ← hrs]; have := runs_few ps; rw [HNP.out] at this; omega
      rw [hnr] at hlr
      rw [hnr]
      have HR := hid hlr
      have hrl := hlr.len
      have HNR := hid hnr
      have HRS := hid hrs
      have HB6 := hid (step HBK.out hb6)
      have HO6 := hid (own_grow ho.out hb6)
      have hor6 := hor
      rw [hnr] at hor6
      clear hor hb6 hlr hnr hrs ho b3
      have HOR := hid hor6
      clear hor6
      go_wp2
      go_loopg [3, 62] nr (fun g t3 i V => ∃ (j : Nat) (va : Option Addr) (vc : Nat), g + j = nr ∧ i = .int .i64 (j : Nat) ∧ t3 = .slice va (O ++ runW (rs.take j)).length vc ∧ Hid (V.ownsRow w1.heap.size 32 1 (.slice va (O ++ runW (rs.take j)).length vc) (O ++ runW (rs.take j)).length (wcells (O ++ runW (rs.take j)))) ∧ Below w1.heap.size w1 V ∧ Hid (V.ownsRow wr.heap.size 26 2 (.slice ra nr rc) nr (rcells rs)))
      case atStart =>
        have e : O ++ runW (rs.take 0) = O := by simp [runW]
        exact ⟨0, va, vc, rfl, rfl, by rw [e], by rw [e]; exact HO6.out, HB6.out, HOR⟩
      case round =>
        obtain ⟨j, va, vc, hj, rfl, rfl, ho, hbj, hor⟩ := hrel
        have HJ := hid hj
        clear hj
        obtain ⟨O1, hO1⟩ : ∃ O1, O ++ runW (rs.take j) = O1 := ⟨_, rfl⟩
        rw [hO1] at ho
        rw [hO1]
        have HO1 := hid hO1
        by_cases hlj : j < nr
        · obtain ⟨x, hxk⟩ : ∃ x, rs[j]? = some x := ⟨_, List.getElem?_eq_getElem (by rw [HNR.out]; exact hlj)⟩
          obtain ⟨z, q⟩ := x
          have hzb : 0 ≤ z ∧ z < (C : Int) := HPK.out z (runsL_in _ _ _ (by have := List.mem_of_getElem? hxk; rw [← HRS.out] at this; exact this))
          have hqb : 1 ≤ q ∧ q ≤ 256 := runs_memL (l := ps) (p := (z, q)) (by rw [HRS.out]; exact List.mem_of_getElem? hxk)
          obtain ⟨zn, rfl⟩ : ∃ zn : Nat, z = (zn : Int) := ⟨z.toNat, by omega⟩
          obtain ⟨q1, hq1⟩ : ∃ q1, q = q1 + 1 := ⟨q - 1, by omega⟩
          have hq1I : ((q : Nat) : Int) - 1 = ((q1 : Nat) : Int) := by omega
          have hzl : zn ≤ 8 := by omega
          have hql : q1 ≤ 256 := by omega
          obtain ⟨wj, hwj⟩ : ∃ wj, wdR zn q1 = wj := ⟨_, rfl⟩
          have hwjI : 2 + 256 * ((zn : Nat) : Int) + 65536 * ((q1 : Nat) : Int) = ((wj : Nat) : Int) := by rw [← hwj]; unfold wdR; omega
          have hwjl : wj < 4294967296 := by rw [← hwj]; unfold wdR; omega
          have HNX : Hid (runW (rs.take (j + 1)) = runW (rs.take j) ++ [wj]) := hid (by rw [runW_next hxk, ← hwj]; simp [hq1])
          have hlv := Leads.of_own1 hor.out
          have hwx : ∃ b off, ra = some ⟨b, off, none⟩ ∧ wr.cell? ⟨b, off + j * 2, none⟩ = some (.int .i64 ((zn : Nat) : Int)) ∧ wr.cell? ⟨b, off + j * 2 + 1, none⟩ = some (.int .i64 ((q : Nat) : Int)) := by
            obtain ⟨_, _, ⟨h0, _⟩ | ⟨b, off, ea, hlt, hc⟩⟩ := hlv
            · omega
            · exact ⟨b, off, ea, hc _ _ (rflat_at hxk).1, by rw [Nat.add_assoc]; exact hc _ _ (rflat_at hxk).2⟩
          obtain ⟨b, off, rfl, q0, q2⟩ := hwx
          obtain ⟨w7, hw7, hb7, hs7, hl7⟩ := laid wr #[.int .i64 ((zn : Nat) : Int), .int .i64 ((q : Nat) : Int)] 26
          obtain ⟨Q, hQ⟩ : ∃ Q, wr.heap.size = Q := ⟨_, rfl⟩
          rw [hQ] at hl7 hs7
          have m0 := cell_laid (i := 0) hl7 rfl
          have m1 := cell_laid (i := 1) hl7 rfl
          obtain ⟨w8, hw8, hb8, hs8, hl8⟩ := laid w7 #[.int .u64 ((wj : Nat) : Int)] 32
          rw [hs7] at hl8 hs8
          have HB8 := hid (step (step hbj hb7) hb8)
          have HO8 := hid (own_grow (own_grow ho.out hb7) hb8)
          have HR8 := hid (own_grow (own_grow hor.out hb7) hb8)
          have HL8 := hid hl8
          have hsz : w1.heap.size ≤ w8.heap.size := HB8.out.size
          have hO1len : O1.length ≤ 5000 := by
            have : (runW (rs.take j)).length = j := by unfold runW; rw [List.length_map, List.length_take, HNR.out]; omega
            rw [← hO1, List.length_append, this]
            omega
          clear hl7 hl8 hb7 hb8 hbj ho hO1 hor hlv hxk hwj hq1 hzb hqb
          go_wp2_with ((with_reducible show wpList _ _ _ _ _ _); refine wp_appendM elemWords rfl (.tmp 66) (.tmp 78) rfl w1.heap.size (.slice va O1.length vc) O1.length (wcells O1) rfl HO8.out ⟨Q + 1, 0, none⟩ 1 1 (wcells [wj]) rfl rfl ?c1 ?c2 ?c3 ?c4 ?c5)
          case c1 =>
            intro i u hu
            refine cell_add ?_
            rw [Nat.zero_add]
            exact cell_laid HL8.out (by simpa [wcells] using hu)
          case c2 => exact wcells_one3 _
          case c3 => omega
          case c4 => exact hsz
          case c5 =>
            intro v' W' ho' hg' hm'
            have HO9 : Hid (W'.ownsRow w1.heap.size 32 1 v' (O ++ runW (rs.take (j + 1))).length (wcells (O ++ runW (rs.take (j + 1))))) := hid (by
              rw [HNX.out, ← List.append_assoc, HO1.out, wcells_app3, List.length_append]; exact ho')
            have HB9 := hid (HB8.out.trans (own_below HO8.out hg' hsz))
            have HR9 := hid (own_keep HR8.out (fun k o hk hh => by
              refine keep_grown hh hg' (fun e => ?_)
              obtain ⟨cur1, hc1⟩ := own_type HR8.out k hk
              obtain ⟨cur2, hc2⟩ := own_type HO8.out k e
              exact type_ne hc1 hc2 (by decide) rfl))
            obtain ⟨va9, vc9, rfl, -⟩ := Leads.of_own HO9.out
            clear ho' hg' hm'
            go_wp2
            go_roundg (gk - 1)
            case measure => have := HJ.out; omega
            case rel => exact ⟨j + 1, _, _, by have := HJ.out; omega, by go_num, rfl, HO9, HB9.out, HR9⟩
        · have e := HJ.out
          obtain rfl : j = nr := by omega
          have HE : Hid (O1 = w0 :: listW 0 ls ++ runW (runsL ps)) := hid (by rw [← hO1, List.take_of_length_le (by rw [HNR.out]; exact Nat.le_refl _), HRS.out, HOE.out])
          have HBJ := hid hbj
          clear e HJ hbj hO1 hor
          go_wp2
          go_ret
          rw [HE.out] at ho
          rw [HE.out]
          exact ⟨_, _, rfl, Leads.of_own1 ho.out, step HB1.out HBJ.out⟩
end Go.Proofs.YtpehnahmdfoobaaDoor
