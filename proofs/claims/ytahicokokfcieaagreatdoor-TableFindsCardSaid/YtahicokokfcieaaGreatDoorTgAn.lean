/- Several texts in one. -/
import Derived.Deep.MidRow
import Derived.Laws.CopyRow
import Derived.Test.YtahicokokfcieaaGreatDoorTgAf
import Derived.Test.YtahicokokfcieaaGreatDoorTgAi
import Derived.Test.YtahicokokfcieaaGreatDoorLs13
import Derived.Test.YtahicokokfcieaaGreatDoorTgAa
namespace Go.Proofs.YtahicokokfcieaaGreatDoor
open Go.RowKit
set_option linter.unusedVariables false
/-- From 'off' on the cells are others. -/
def patch (cur : Array Value) (off : Nat) (vs : List Value) : Array Value := (cur.toList.take off ++ vs ++ cur.toList.drop (off + vs.length)).toArray
theorem run_storeVar_part {P : Program} (w : World) (g off : Nat) (t ty : TypeId) (cur : Array Value) (v : Value) (hg : w.heap[g]? = some (.cells cur t (0, 0))) (hi : (P.info? ty).map (·.size) = some v.cells.size)
    (hle : off + v.cells.size ≤ cur.size) (h1 : v.cells.all (·.oneCell') = true) :
    (storeVar ty ⟨g, off, none⟩ v).run P w = .ok () (w.setRow g (patch cur off v.cells.toList)) := by
  have := run_storeCells_at (P := P) g off t v.cells.toList 0 cur w hg (by simp; omega) (fun v hv => (Array.all_eq_true_iff_forall_mem.1 h1) v (by simpa using hv))
  cases hq : P.info? ty with
  | none => simp [hq] at hi
  | some i =>
    have hs : v.cells.size = i.size := by simp [hq] at hi; omega
    simp only [Nat.add_zero] at this
    simp [storeVar, sizeOf, typeInfo, hq, hs, this, patch]
theorem wp_storeP {P : Program} {w : World} {ops : Array Oper} {rest : List Oper} {o : Oper} {a : Act} {Q : Exit → Act → World → Prop} (hgd : o.guard = none) (T : TypeId) (p x : Operand) (ho : o.op = .store T p x)
    (Y off : Nat) (cur new : Array Value) (v : Value) (hp : a.eval p = .pointer (some ⟨Y, off, none⟩)) (hx : a.eval x = v) (e : TypeId) (hY : w.heap[Y]? = some (.cells cur e (0, 0))) (hi : (P.info? T).map (·.size) = some v.cells.size) (hle : off + v.cells.size ≤ cur.size) (h1 : v.cells.all (·.oneCell') = true) (hnew : patch cur off v.cells.toList = new)
    (h : ∀ w', w'.heap[Y]? = some (.cells new e (0, 0)) → (∀ (k : Nat) (o : Obj), k ≠ Y → w.heap[k]? = some o → w'.heap[k]? = some o) → (∀ (B : Nat) (w0 : World), B ≤ Y → Below B w0 w → Below B w0 w') → w.grownBy w' (some Y) → wpList P ops Q rest (a.put o.dst undef) w') : wpList P ops Q (o :: rest) a w := by
  refine wpList_plain hgd fun K hK => ?_
  have hr := run_storeVar_part (P := P) w Y off e T cur v hY hi hle h1
  rw [hnew] at hr
  unfold Oper.wp
  simp only [execOp, ho, Instr.storeAt, Instr.sureAddr, hp, hx, Sem.run_bind, Sem.run_pure, Result.andThen_ok, hr]
  exact hK _ _ (h _ (setRow_heap w Y _ _ e _ hY) (fun k o hk ho => (setRow_other w Y k _ hk).trans ho) (fun B w0 hB hb => below_setRow hb hB _) ⟨rfl, rfl, rfl, by simp [World.setRow], fun k _ hk => setRow_other w Y k _ (fun e => hk (by rw [e]))⟩)
end Go.Proofs.YtahicokokfcieaaGreatDoor
namespace Go.Proofs.YtahicokokfcieaaGreatDoor
open Go.RowKit
open Go.Proofs
set_option linter.unusedVariables false
attribute [local go_sem] Oper.semAt_some
theorem rows_any (mb root n : Nat) (wa : Option Addr) (wc : Nat) (la : Option Addr) (lc : Nat) (M : Mem) (V : World) (hn : M.W.length = n) (hm : M.L.length = n) (h : MemL V wa wc la lc M) (hg : Glob V) :
    Calls Tryz.prog 61 #[.agg #[.slice wa n wc, .slice la n lc, .bool M.F], .int .u64 ((root : Nat) : Int), .map (some mb)] V (fun e W => ∃ T X H, e = .returned (.func (.func 86) #[] #[.pointer (some ⟨T, 0, none⟩), .pointer (some ⟨X, 0, none⟩), .pointer (some ⟨H, 0, none⟩)]) ∧ Rit T X H mb wa wc la lc n root M W ∧ Below V.heap.size V W) := by
  obtain ⟨V1, hV1, hb1, hs1, hl1⟩ := laid V #[.slice wa n wc, .slice la n lc, .bool M.F] 25
  obtain ⟨V2, hV2, hb2, hs2, hl2⟩ := laid V1 #[.int .u64 ((root : Nat) : Int)] 26
  obtain ⟨V3, hV3, hb3, hs3, hl3⟩ := laid V2 #[.map (some mb)] 77
  have HB := hid (step (step hb1 hb2) hb3)
  have KX := hid (keep_laid (keep_laid hl1 hb2) hb3)
  have KH := hid (keep_laid hl2 hb3)
  have KT := hid hl3
  have HM := hid (h.grow HB.out)
  have HG := hid (hg.grow HB.out)
  have hwl := h.w.len
  have hll := h.l.len
  rw [hn] at hwl
  rw [hm] at hll
  have hmf : ∀ (fn : Fn) (first cap : Array Value) (w : World), (Instr.makeFunc fn first cap).run Tryz.prog w = .ok (.func fn first cap) w := fun _ _ _ _ => rfl
  clear hb1 hs1 hl1 hb2 hs2 hl2 hb3 hs3 hl3 h hg
  go_enter Tryz.func61, Tryz.ntmps61
  go_wp2
  go_ret
  exact ⟨_, _, _, rfl, ⟨KT.out, KX.out, KH.out, HM.out, HG.out⟩, HB.out⟩
theorem tch_grown {V W : World} {mb Z : Nat} (h : V.grownBy W (some mb)) : Tch (fun k => k = mb ∨ k = Z) V W := ⟨h.os, h.tape, h.output, h.size, fun k hk hn => h.block k hk (fun e => hn (.inl (Option.some.inj e)))⟩
def ToldA (M : Mem) (root n mb Z : Nat) (W W' : World) : Prop := Tch (fun k => k = mb ∨ k = Z) W W' ∧ ∃ xs v, W'.heap[Z]? = some (.cells #[v] 29 (0, 0)) ∧ W'.ownsRow W.heap.size 73 4 v xs.length (rwcells xs) ∧ EeR M root n mb xs W'
def ToldB (M : Mem) (root mb Z : Nat) (W W' : World) : Prop := Tch (fun k => k = mb ∨ k = Z) W W' ∧ rowsW M root = none
set_option maxRecDepth 100000 in
set_option maxHeartbeats 2000000 in
theorem told1_any (X H T Z mb root n : Nat) (wa : Option Addr) (wc : Nat) (la : Option Addr) (lc : Nat) (M : Mem) (V : World) (hn : M.W.length = n) (hm : M.L.length = n) (hn1 : 1 ≤ n) (hn4 : n ≤ 4096) (hok : okM M = true) (hr : root < 18446744073709551616) (hW : ∀ x ∈ M.W, x < 18446744073709551616)
    (h : MemL V wa wc la lc M) (hg : Glob V) (hi : IdsI V mb (ones [])) (kX : V.heap[X]? = some (.cells #[.slice wa n wc, .slice la n lc, .bool M.F] 25 (0, 0))) (kH : V.heap[H]? = some (.cells #[.int .u64 ((root : Nat) : Int)] 26 (0, 0))) (kT : V.heap[T]? = some (.cells #[.map (some mb)] 77 (0, 0))) (kZ : V.heap[Z]? = some (.cells #[.slice none 0 0] 29 (0, 0))) :
    Calls Tryz.prog 59 #[.pointer (some ⟨X, 0, none⟩), .pointer (some ⟨H, 0, none⟩), .pointer (some ⟨T, 0, none⟩), .pointer (some ⟨Z, 0, none⟩)] V (fun e W' => (e = .returned (.tuple #[]) ∧ ToldA M root n mb Z V W') ∨ (e = .panicked tbk ∧ ToldB M root mb Z V W')) := by
  have x0 := cell_laid (i := 0) kX rfl
  have x1 := cell_laid (i := 1) kX rfl
  have x2 := cell_laid (i := 2) kX rfl
  have xh := cell_laid (i := 0) kH rfl
  have xt := cell_laid (i := 0) kT rfl
  have HRO := hid (rows_any mb root n wa wc la lc M V hn hm h hg)
  have HZ := hid kZ
  have HI := hid hi
  have hwl := h.w.len
  have hll := h.l.len
  rw [hn] at hwl
  rw [hm] at hll
  have HGA : Hid (∀ T X H W, Rit T X H mb wa wc la lc n root M W → IdsI W mb (ones []) → Calls Tryz.prog 60 #[.func (.func 86) #[] #[.pointer (some ⟨T, 0, none⟩), .pointer (some ⟨X, 0, none⟩), .pointer (some ⟨H, 0, none⟩)], .func (.func 62) #[] #[]] W (fun e W' =>
      W.grownBy W' (some mb) ∧ ((∃ xs v, e = .returned v ∧ W'.ownsRow W.heap.size 73 4 v xs.length (rwcells xs) ∧ EeR M root n mb xs W') ∨ (rowsW M root = none ∧ e = .panicked tbk)))) := hid (fun T X H W h1 h2 => gathered_any T X H mb root n wa wc la lc M W hn hm hn1 hn4 hok hr hW h1 h2)
  clear h hg hi kX kH kT kZ hok hW
  go_enter Tryz.func59, Tryz.ntmps59
  go_wp2_with fail
  refine HRO.out.mono ?_
  rintro e w2 ⟨T', X', H', rfl, hri, hb2⟩
  have HRI := hid hri
  have HB2 := hid hb2
  have HI2 := hid (HI.out.grow hb2)
  have HZ2 := hid (keep_laid HZ.out hb2)
  clear hri hb2 x0 x1 x2 xh xt HRO
  go_wp2_with fail
  refine (HGA.out T' X' H' w2 HRI.out HI2.out).mono ?_
  rintro e w3 ⟨hg3, ⟨xs, v, rfl, hrow, hee⟩ | ⟨hno, rfl⟩⟩
  · have HZ3 := hid (keep_grown HZ2.out hg3 (idsI_ne HI2.out HZ2.out))
    have HT3 := hid (tch_grown (Z := Z) (grownBy_trans (grownBy_below HB2.out (some mb)) hg3))
    obtain ⟨va, vc, rfl, -⟩ := Leads.of_own hrow
    have HRW := hid hrow
    have HEE := hid hee
    have z0 := cell_laid (i := 0) HZ3.out rfl
    have zf := free_laid (i := 0) HZ3.out
    have KZ4 := hid (set_laid (i := 0) HZ3.out (.slice va xs.length vc))
    have hZV : Z < V.heap.size := lt_laid HZ.out
    have hnZ : mb ≠ Z := fun e => idsI_ne HI.out HZ.out (by rw [e])
    clear hrow hee hg3
    go_wp2
    go_end0
    refine .inl ⟨rfl, ⟨HT3.out.os, HT3.out.tape, HT3.out.output, by simpa [World.setCell] using HT3.out.size, fun k hk hne => ?_⟩, xs, _, KZ4.out, ?_, ?_⟩
    · exact (Below.heap_setCell w3 ⟨Z, 0, none⟩ _ _ (by show k ≠ Z; exact fun e => hne (.inr e))).trans (HT3.out.block k hk hne)
    · exact ownsRow_setCell_below (a := ⟨Z, 0, none⟩) (own_base HRW.out HB2.out.size) (by show Z < _; omega) _
    · obtain ⟨met, h1, h2, h3⟩ := HEE.out
      exact ⟨met, h1, h2.block (Below.heap_setCell w3 ⟨Z, 0, none⟩ _ _ (by show mb ≠ Z; exact hnZ)), h3⟩
  · have HT3 := hid (tch_grown (Z := Z) (grownBy_trans (grownBy_below HB2.out (some mb)) hg3))
    have HNO := hid hno
    clear hg3 hno
    go_wp2
    exact ⟨rfl, .inr ⟨rfl, HT3.out, HNO.out⟩⟩
end Go.Proofs.YtahicokokfcieaaGreatDoor
namespace Go.Proofs.YtahicokokfcieaaGreatDoor
open Go.RowKit
open Go.Proofs
set_option linter.unusedVariables false
attribute [local go_sem] Oper.semAt_some
/-- What told gives. -/
def GivesTold (M : Mem) (root : Nat) (V : World) (e : Ending) (W : World) : Prop := Below V.heap.size V W ∧
  ((okM M = false ∧ e = .returned (.tuple #[.slice none 0 0, .map none, .int .i64 120])) ∨
   (okM M = true ∧ rowsW M root = none ∧ e = .returned (.tuple #[.slice none 0 0, .map none, .int .i64 290])) ∨
   (okM M = true ∧ ∃ xs met v mb, rowsW M root = some (xs, met) ∧ e = .returned (.tuple #[v, .map (some mb), .int .i64 0]) ∧ W.ownsRow V.heap.size 73 4 v xs.length (rwcells xs) ∧ V.heap.size ≤ mb ∧ IdsI W mb (ones met) ∧ MetOk M.W.length met))
set_option maxRecDepth 100000 in
set_option maxHeartbeats 4000000 in
theorem told_any (root : Nat) (wa : Option Addr) (wc : Nat) (la : Option Addr) (lc : Nat) (M : Mem) (V : World) (hr : root < 18446744073709551616) (hW : ∀ x ∈ M.W, x < 18446744073709551616) (h : MemL V wa wc la lc M) (hg : Glob V) :
    Calls Tryz.prog 31 #[memV wa wc la lc M, .int .u64 ((root : Nat) : Int)] V (GivesTold M root V) := by
  obtain ⟨V1, hV1, hb1, hs1, hl1⟩ := laid V #[.slice wa M.W.length wc, .slice la M.L.length lc, .bool M.F] 25
  obtain ⟨V2, hV2, hb2, hs2, hl2⟩ := laid V1 #[.int .u64 ((root : Nat) : Int)] 26
  obtain ⟨X, hX⟩ : ∃ x, V.heap.size = x := ⟨_, rfl⟩
  obtain ⟨H, hH⟩ : ∃ x, V1.heap.size = x := ⟨_, rfl⟩
  rw [hX] at hl1
  rw [hH] at hl2
  have KX := hid (keep_laid hl1 hb2)
  have KH := hid hl2
  have HB2 := hid (step hb1 hb2)
  have HX := hid hX
  have HM := hid (h.grow HB2.out)
  have HG := hid (hg.grow HB2.out)
  have HCK := hid (Check_any M wa la wc lc V2 HM.out)
  have HW := hid hW
  have hwl := h.w.len
  have hll := h.l.len
  have x0 := cell_laid (i := 0) KX.out rfl
  have x1 := cell_laid (i := 1) KX.out rfl
  have x2 := cell_laid (i := 2) KX.out rfl
  unfold memV at HCK ⊢
  have hmf : ∀ (fn : Fn) (first cap : Array Value) (w : World), (Instr.makeFunc fn first cap).run Tryz.prog w = .ok (.func fn first cap) w := fun _ _ _ _ => rfl
  have hmm := @run_makeMap Tryz.prog
  clear hb1 hs1 hl1 hb2 hs2 hl2 h hg hW
  cases hok : okM M with
  | false =>
    rw [hok, if_neg (by decide)] at HCK
    have HOK := hid hok
    clear hok
    go_enter Tryz.func31, Tryz.ntmps31
    go_wp2_with fail
    refine HCK.out.mono ?_
    rintro e w3 ⟨rfl, hb3⟩
    have HB3 := hid (step HB2.out hb3)
    clear hb3 HCK
    go_wp2
    refine bodyPost_ret (results_tmp3 rfl _ _ _) rfl ?_
    exact ⟨HB3.out, .inl ⟨HOK.out, rfl⟩⟩
  | true =>
    rw [hok, if_pos rfl] at HCK
    obtain ⟨hn1, hn4, hmn, -⟩ := okM_spec hok
    have HOK := hid hok
    obtain ⟨n, hn⟩ : ∃ n, M.W.length = n := ⟨_, rfl⟩
    have HN := hid hn
    have HMN : Hid (M.L.length = n) := hid (by rw [hmn, hn])
    rw [hmn] at HCK KX x1 hll hV1 ⊢
    rw [hn] at HCK KX x0 x1 hwl hll hn1 hn4 hV1 ⊢
    clear hok hmn hn
    go_enter Tryz.func31, Tryz.ntmps31
    go_wp2_with fail
    refine HCK.out.mono ?_
    rintro e w3 ⟨rfl, hb3⟩
    have HB3 := hid (step HB2.out hb3)
    have HM3 := hid (HM.out.grow hb3)
    have HG3 := hid (HG.out.grow hb3)
    have KX3 := hid (keep_laid KX.out hb3)
    have KH3 := hid (keep_laid KH.out hb3)
    clear hb3 HCK x0 x1 x2
    obtain ⟨V4, hV4, hb4, hs4, hl4⟩ := laid w3 #[.slice none 0 0] 29
    obtain ⟨Z, hZ⟩ : ∃ x, w3.heap.size = x := ⟨_, rfl⟩
    rw [hZ] at hl4
    obtain ⟨V5, hV5⟩ : ∃ x, V4.alloc (.map #[] 0) = x := ⟨_, rfl⟩
    have hb5 : Below V4.heap.size V4 V5 := by rw [← hV5]; exact (Below.refl _ _).alloc (Nat.le_refl _) _
    have hi5 : IdsI V5 V4.heap.size (ones []) := by rw [← hV5]; exact IdsI.made V4
    obtain ⟨mb, hmb⟩ : ∃ x, V4.heap.size = x := ⟨_, rfl⟩
    rw [hmb] at hi5
    have hs5 : V5.heap.size = V4.heap.size + 1 := by rw [← hV5]; simp
    obtain ⟨V6, hV6, hb6, hs6, hl6⟩ := laid V5 #[.map (some mb)] 77
    obtain ⟨T, hT⟩ : ∃ x, V5.heap.size = x := ⟨_, rfl⟩
    rw [hT] at hl6
    have HB36 := hid (step (step hb4 hb5) hb6)
    have HB6 := hid (step HB3.out HB36.out)
    have KZ6 := hid (keep_laid hl4 (step hb5 hb6))
    have KT6 := hid hl6
    have HI6 := hid (hi5.grow hb6)
    have HM6 := hid (HM3.out.grow HB36.out)
    have HG6 := hid (HG3.out.grow HB36.out)
    have KX6 := hid (keep_laid KX3.out HB36.out)
    have KH6 := hid (keep_laid KH3.out HB36.out)
    have hVZ : V.heap.size ≤ Z := by have := HB3.out.size; omega
    have hZm : Z < mb := by omega
    have hmT : mb < T := by omega
    have hT6 : T < V6.heap.size := by omega
    have HTR := hid (tries_any 59 #[.pointer (some ⟨X, 0, none⟩), .pointer (some ⟨H, 0, none⟩), .pointer (some ⟨T, 0, none⟩), .pointer (some ⟨Z, 0, none⟩)] (ToldA M root n mb Z) (ToldB M root mb Z) V6 (enters_of Tryz.func59 (by kernel_rfl) rfl)
      (fun W hb => told1_any X H T Z mb root n wa wc la lc M W HN.out HMN.out hn1 hn4 HOK.out hr HW.out (HM6.out.grow hb) (HG6.out.grow hb) (HI6.out.grow hb) (keep_laid KX6.out hb) (keep_laid KH6.out hb) (keep_laid KT6.out hb) (keep_laid KZ6.out hb))
      (fun W W' Z' hb h1 h2 hAB => by
        have ht : Tch (fun k => k = mb ∨ k = Z) W W' := hAB.elim (fun hA => hA.1) (fun hB => hB.1)
        exact ht.block Z' h2 (by rintro (e | e) <;> omega)))
    clear hb4 hs4 hl4 hb5 hi5 hs5 hb6 hs6 hl6 HB36 HM3 HG3 KX3 KH3 HM6 HG6 KX6 KH6 KX KH HM HG
    go_wp2_with fail
    refine HTR.out.mono ?_
    rintro e W2 ⟨Z', W, W1, hbW, hz1, hz2, hgr, ⟨rfl, ht, xs, v, hZ1, hrow, hee⟩ | ⟨rfl, ht, hno⟩⟩
    · have hZ2 := hid (keep_grown hZ1 hgr (fun e => by have := Option.some.inj e; omega))
      have hT1 := ht.keep (keep_laid KT6.out hbW) (by rintro (e | e) <;> omega)
      have HT2 := hid (keep_grown hT1 hgr (fun e => by have := Option.some.inj e; omega))
      have HRW := hid (own_keep hrow fun k o hk ho => (hgr.block k ((Array.getElem?_eq_some_iff.1 ho).1) (fun e => by have := (hrow.lt k hk).1; have := Option.some.inj e; omega)).trans ho)
      have hVW : V.heap.size ≤ W.heap.size := by have := HB6.out.size; have := hbW.size; omega
      have HBW := hid (((HB6.out.trans (hbW.mono HB6.out.size)).trans (ht.below (B := V.heap.size) (by rintro k (e | e) <;> omega) hVW)).grown hgr (by have := ht.size; omega) (fun k e => by cases e; omega))
      obtain ⟨met, r1, r2, r3⟩ := hee
      have HI2 := hid (r2.block (hgr.block mb (World.ownsMap.lt r2) (fun e => by have := Option.some.inj e; omega)))
      have HR1 := hid r1
      have HR3 := hid r3
      obtain ⟨va, vc, rfl, -⟩ := Leads.of_own hrow
      clear hbW hgr ht hZ1 hrow r1 r2 r3 hT1 HTR
      go_upto_region 8 with (fail)
      have z0 : ∀ z : Ext W2, z.v.cell? ⟨Z, 0, none⟩ = some (.slice va xs.length vc) := fun z => cell_laid (keep_laid hZ2.out z.b) rfl
      have t0 : ∀ z : Ext W2, z.v.cell? ⟨T, 0, none⟩ = some (.map (some mb)) := fun z => cell_laid (keep_laid HT2.out z.b) rfl
      refine wp_region_ext (by kernel_rfl) (by kernel_rfl) ?_
      repeat (go_big_quiet_step (fail))
      refine wpQuiet_nil ?_
      rintro w8 ⟨x8, e8⟩
      have hb8 := x8.b
      rw [← e8] at hb8
      clear e8 x8 z0 t0
      have HB8 := hid (HBW.out.trans (hb8.mono HBW.out.size))
      have HRW8 := hid (own_grow HRW.out hb8)
      have HI8 := hid (HI2.out.grow hb8)
      clear hb8
      go_wp2
      refine bodyPost_ret (results_tmp3 rfl _ _ _) rfl ?_
      exact ⟨HB8.out, .inr (.inr ⟨HOK.out, xs, met, _, mb, HR1.out, rfl, own_base HRW8.out hVW, by omega, HI8.out, by rw [HN.out]; exact HR3.out⟩)⟩
    · have hVW : V.heap.size ≤ W.heap.size := by have := HB6.out.size; have := hbW.size; omega
      have HBW := hid (((HB6.out.trans (hbW.mono HB6.out.size)).trans (ht.below (B := V.heap.size) (by rintro k (e | e) <;> omega) hVW)).grown hgr (by have := ht.size; omega) (fun k e => by cases e; omega))
      have HNO := hid hno
      clear hbW hgr ht hno HTR
      go_wp2
      refine bodyPost_ret (results_tmp3 rfl _ _ _) rfl ?_
      exact ⟨HBW.out, .inr (.inl ⟨HOK.out, HNO.out, rfl⟩)⟩
end Go.Proofs.YtahicokokfcieaaGreatDoor
namespace Go.Proofs.YtahicokokfcieaaGreatDoor
open Go.RowKit
open Go.Proofs
set_option linter.unusedVariables false
def RunT (B R : Nat) (M : Mem) (n : Nat) (V : World) : Prop := ∃ wa wc la lc, V.heap[R]? = some (.cells #[.slice wa M.W.length wc, .slice la M.L.length lc, .bool M.F, .int .i64 ((n : Nat) : Int)] 92 (0, 0)) ∧ MemO B wa wc la lc M V
theorem RunT.grow {B R : Nat} {M : Mem} {n : Nat} {V W : World} (h : RunT B R M n V) (hb : Below V.heap.size V W) : RunT B R M n W := let ⟨wa, wc, la, lc, k, o⟩ := h; ⟨wa, wc, la, lc, keep_laid k hb, o.grow hb⟩
/-- Other blocks, of other kinds, are written. -/
theorem RunT.tch {B R S : Nat} {M : Mem} {n : Nat} {V W : World} {cs : Array Value} {e : TypeId} (h : RunT B R M n V) (ht : Tch (fun k => k = S) V W) (hS : V.heap[S]? = some (.cells cs e (0, 0))) (h1 : 26 ≠ e) (h2 : 4 ≠ e) (h3 : 92 ≠ e) : RunT B R M n W := by
  obtain ⟨wa, wc, la, lc, k, o⟩ := h
  have hRS : R ≠ S := type_ne k hS h3
  refine ⟨wa, wc, la, lc, ht.keep k hRS, own_keep o.w fun j ob hj ho => ht.keep ho ?_, own_keep o.l fun j ob hj ho => ht.keep ho ?_⟩
  · rintro rfl
    obtain ⟨c, hc⟩ := own_type o.w j hj
    exact type_ne hc hS h1 rfl
  · rintro rfl
    obtain ⟨c, hc⟩ := own_type o.l j hj
    exact type_ne hc hS h2 rfl
/-- A memory of its own that machines step in. -/
def GivesOwnT (M : Mem) (w : World) (e : Ending) (W : World) : Prop := ∃ R, e = .returned (.pointer (some ⟨R, 0, none⟩)) ∧ w.heap.size ≤ R ∧ RunT w.heap.size R M 0 W ∧ Below w.heap.size w W
set_option maxRecDepth 100000 in
set_option maxHeartbeats 4000000 in
theorem town_any (M : Mem) (wa la : Option Addr) (wc lc : Nat) (V : World) (h : MemL V wa wc la lc M) (hok : okM M = true) :
    Calls Tryz.prog 39 #[memV wa wc la lc M] V (GivesOwnT M V) := by
  obtain ⟨V1, hV1, hbV1, hsV1, hlV1⟩ := laid V #[.slice wa M.W.length wc, .slice la M.L.length lc, .bool M.F] 25
  obtain ⟨X, hX⟩ : ∃ X, V.heap.size = X := ⟨_, rfl⟩
  rw [hX] at hlV1
  have KX := hid hlV1
  have HB := hid hbV1
  have hVX : V.heap.size ≤ X := by omega
  clear hbV1 hsV1 hlV1
  have HM := hid (h.grow HB.out)
  have HRU := hid (Run0_any M wa la wc lc V1 HM.out hok)
  have hwl := h.w.len
  have hll := h.l.len
  unfold memV at HRU ⊢
  obtain ⟨x0, x1, x2⟩ := cells3 KX.out
  clear h hok
  go_enter Tryz.func39, Tryz.ntmps39
  go_wp2_with fail
  refine HRU.out.mono ?_
  rintro e V2 ⟨wa', wc', la', lc', rfl, hoo, hb2⟩
  have hV12 := hb2.size
  have HO2 := hid (hoo.base (base' := V.heap.size) HB.out.size)
  have HB2 := hid (step HB.out hb2)
  clear hoo hb2 x0 x1 x2
  unfold memV
  obtain ⟨V3, hV3, hb3, hs3, hl3⟩ := laid V2 #[.slice none 0 0, .slice none 0 0, .bool false] 25
  obtain ⟨Y, hY⟩ : ∃ X, V2.heap.size = X := ⟨_, rfl⟩
  rw [hY] at hl3
  obtain ⟨V4, hV4, a1, a2, a3, a4⟩ := put_mem hl3 (.slice wa' M.W.length wc') (.slice la' M.L.length lc') (.bool M.F)
  obtain ⟨y0, yf0, y1, yf1, y2, yf2⟩ := fcl3 hl3
  have hVY : V.heap.size ≤ Y := by have := HB2.out.size; omega
  have HV4 := hid hV4
  have KY := hid a1
  have HO4 := hid (a4 _ _ _ _ _ _ (HO2.out.grow hb3))
  have HB4 := hid (a3 V.heap.size V hVY (step HB2.out hb3))
  clear hV4 a1 a2 a3 a4 hb3 hs3 hl3
  have hwl' := HO4.out.memL.w.len
  have hll' := HO4.out.memL.l.len
  go_upto_region 2 with (fail)
  rw [← HV4.out]
  clear y0 yf0 y1 yf1 y2 yf2
  obtain ⟨y0, y1, y2⟩ := cells3 KY.out
  obtain ⟨V5, hV5, hb5, hs5, hl5⟩ := laid V4 #[.slice wa' M.W.length wc', .slice la' M.L.length lc', .bool M.F, .int .i64 0] 92
  obtain ⟨R, hR⟩ : ∃ X, V4.heap.size = X := ⟨_, rfl⟩
  rw [hR] at hl5
  have hVR : V.heap.size ≤ R := by have := HB4.out.size; omega
  have HRC : Hid (RunT V.heap.size R M 0 V5) := hid ⟨wa', wc', la', lc', hl5, HO4.out.grow hb5⟩
  have HB5 := hid (step HB4.out hb5)
  clear hl5 hs5 hb5
  go_wp2
  go_ret
  exact ⟨R, rfl, hVR, HRC.out, HB5.out⟩
/-- What Rows gives. -/
def GivesRows (M : Mem) (root : Nat) (V : World) (e : Ending) (W : World) : Prop := Below V.heap.size V W ∧
  ((okM M = false ∧ e = .returned (.tuple #[.slice none 0 0, .int .i64 120])) ∨
   (okM M = true ∧ rowsW M root = none ∧ e = .returned (.tuple #[.slice none 0 0, .int .i64 290])) ∨
   (okM M = true ∧ ∃ xs met v, rowsW M root = some (xs, met) ∧ e = .returned (.tuple #[v, .int .i64 0]) ∧ W.ownsRow V.heap.size 73 4 v xs.length (rwcells xs)))
theorem Rows_any (root : Nat) (wa : Option Addr) (wc : Nat) (la : Option Addr) (lc : Nat) (M : Mem) (V : World) (hr : root < 18446744073709551616) (hW : ∀ x ∈ M.W, x < 18446744073709551616) (h : MemL V wa wc la lc M) (hg : Glob V) :
    Calls Tryz.prog 8 #[memV wa wc la lc M, .int .u64 ((root : Nat) : Int)] V (GivesRows M root V) := by
  obtain ⟨V1, hV1, hb1, hs1, hl1⟩ := laid V #[.slice wa M.W.length wc, .slice la M.L.length lc, .bool M.F] 25
  have x0 := cell_laid (i := 0) hl1 rfl
  have x1 := cell_laid (i := 1) hl1 rfl
  have x2 := cell_laid (i := 2) hl1 rfl
  have HB := hid hb1
  have HT := hid (told_any root wa wc la lc M V1 hr hW (h.grow hb1) (hg.grow hb1))
  have hwl := h.w.len
  have hll := h.l.len
  unfold memV at HT ⊢
  clear hb1 hs1 hl1 h hg hW
  go_enter Tryz.func8, Tryz.ntmps8
  go_wp2_with fail
  refine HT.out.mono ?_
  rintro e w2 ⟨hb2, ⟨hok, rfl⟩ | ⟨hok, hno, rfl⟩ | ⟨hok, xs, met, v, mb, hR, rfl, hrow, -, -, -⟩⟩
  · have HB2 := hid (step HB.out hb2)
    have HOK := hid hok
    clear hb2 hok
    go_wp2
    go_ret2
    exact ⟨HB2.out, .inl ⟨HOK.out, rfl⟩⟩
  · have HB2 := hid (step HB.out hb2)
    have HOK := hid hok
    have HNO := hid hno
    clear hb2 hok hno
    go_wp2
    go_ret2
    exact ⟨HB2.out, .inr (.inl ⟨HOK.out, HNO.out, rfl⟩)⟩
  · have HB2 := hid (step HB.out hb2)
    have HOK := hid hok
    have HR := hid hR
    have HRW := hid (own_base hrow HB.out.size)
    clear hb2 hok hR hrow
    go_wp2
    go_ret2
    exact ⟨HB2.out, .inr (.inr ⟨HOK.out, xs, met, v, HR.out, rfl, HRW.out⟩)⟩
end Go.Proofs.YtahicokokfcieaaGreatDoor
namespace Go.Proofs.YtahicokokfcieaaGreatDoor
open Go.RowKit
open Go.Proofs
set_option linter.unusedVariables false
theorem own_neP {W : World} {X : Nat} {v : Value} {e e' : TypeId} {size base n : Nat} {xs : List Value} {cur : Array Value} (h : W.ownsRow base e size v n xs) (hX : W.heap[X]? = some (.cells cur e' (0, 0))) (hne : e ≠ e') : v.ownBlock ≠ some X := by
  intro hk
  obtain ⟨c, hc⟩ := own_type h X hk
  exact type_ne hc hX hne rfl
theorem RunT.lt {B R : Nat} {M : Mem} {n : Nat} {V : World} (h : RunT B R M n V) : R < V.heap.size := by obtain ⟨_, _, _, _, k, _⟩ := h; exact lt_laid k
set_option maxRecDepth 100000 in
set_option maxHeartbeats 2000000 in
theorem tstore_any (B R at_ new : Nat) (M : Mem) (n : Nat) (V : World) (h : RunT B R M n V) (hB : B ≤ V.heap.size) (hok : okM M = true) (hat : at_ ≤ 1000000) :
    Calls Tryz.prog 52 #[.pointer (some ⟨R, 0, none⟩), .int .u64 ((at_ : Nat) : Int), .int .u64 ((new : Nat) : Int)] V (fun e W => e = .returned (.tuple #[]) ∧ RunT B R (stepM M true ((at_ : Nat) : Int) new).1 n W ∧ Tch (fun k => k = R) V W) := by
  obtain ⟨wa, wc, la, lc, hR, hO⟩ := h
  obtain ⟨⟨M', x, d⟩, hX⟩ : ∃ X, stepM M true ((at_ : Nat) : Int) new = X := ⟨_, rfl⟩
  have HST := hid (Step_any M wa la wc lc true 2 ((at_ : Nat) : Int) 0 new V hO.memL hok (by omega) rfl)
  rw [hX] at HST ⊢
  have HR := hid hR
  have hwl := hO.memL.w.len
  have hll := hO.memL.l.len
  have r0 := cell_laid (i := 0) hR rfl
  have r1 := cell_laid (i := 1) hR rfl
  have r2 := cell_laid (i := 2) hR rfl
  unfold memV at HST
  clear hR hO hX
  go_enter Tryz.func52, Tryz.ntmps52
  go_wp2_with fail
  refine HST.out.mono ?_
  rintro e w2 ⟨wa', wc', la', lc', rfl, hoo, hb2⟩
  have HR2 := hid (keep_laid HR.out hb2)
  have HN2 := hid (hoo.base hB)
  have HT2 := hid (Tch.of_below (P := fun k => k = R) hb2)
  unfold memV
  clear hoo hb2 r0 r1 r2 HST
  go_wp2_with (refine wp_storeP rfl 25 (.tmp 21) (.tmp 17) rfl R 0 _ #[.slice wa' M'.W.length wc', .slice la' M'.L.length lc', .bool M'.F, .int .i64 ((n : Nat) : Int)] _ rfl rfl _ HR2.out (by kernel_rfl) (Nat.le_of_ble_eq_true rfl) (by kernel_rfl) rfl ?_; intro w3 a1 a2 a3 a4; have HR3 := hid a1; have HN3 : Hid (MemO B wa' wc' la' lc' M' w3) := hid ⟨own_keep HN2.out.w fun j o hj ho => a2 j o (fun e => own_neP HN2.out.w HR2.out (by decide) (by rw [← e]; exact hj)) ho, own_keep HN2.out.l fun j o hj ho => a2 j o (fun e => own_neP HN2.out.l HR2.out (by decide) (by rw [← e]; exact hj)) ho⟩; have HT3 := hid (HT2.out.trans ⟨a4.os, a4.tape, a4.output, a4.size, fun k hk hne => a4.block k hk (fun e => hne (Option.some.inj e))⟩); clear a1 a2 a3 a4)
  go_end0
  exact ⟨rfl, ⟨wa', wc', la', lc', HR3.out, HN3.out⟩, HT3.out⟩
end Go.Proofs.YtahicokokfcieaaGreatDoor
namespace Go.Proofs.YtahicokokfcieaaGreatDoor
open Go.RowKit
open Go.Proofs
set_option linter.unusedVariables false
/-- Who looks. -/
structure Lk where
  ph : Int
  root : Nat
  key : Nat
  array : Nat
  many : Int
  s : Sk
def lk12 (l : Lk) : Array Value := #[.int .i64 l.ph, .int .u64 ((l.root : Nat) : Int), .int .u64 ((l.key : Nat) : Int), .int .u64 ((l.array : Nat) : Int), .int .i64 l.many, .int .i64 l.s.ph, .int .u64 ((l.s.hash : Nat) : Int), .int .u64 ((l.s.key : Nat) : Int), .int .u64 ((l.s.link : Nat) : Int), .int .u64 ((l.s.node : Nat) : Int), .int .u64 ((l.s.val : Nat) : Int), .bool l.s.found]
def zeroLk : Lk := ⟨0, 0, 0, 0, 0, zeroSk⟩
/-- A look as a value: its last field's cells lie flat. -/
def lkV (l : Lk) : Value := .agg (lk12 l)
def askK (root key : Nat) : Lk := ⟨0, root, key, 0, 0, zeroSk⟩
theorem ask_result {W : World} {b : Nat} {v0 v1 v2 v3 v4 v5 v6 v7 v8 v9 v10 v11 : Value} {tmps : Array Value} (h4 : W.heap[b]? = some (.cells #[v0, v1, v2, v3, v4, v5, v6, v7, v8, v9, v10, v11] 43 (0, 0))) (q4 : tmps[4]?.getD undef = .pointer (some ⟨b, 0, none⟩)) :
    (results Tryz.f23 tmps).run Tryz.prog W = .ok (.agg #[v0, v1, v2, v3, v4, v5, v6, v7, v8, v9, v10, v11]) W := by
  have e0 := cell_laid (i := 0) (v := v0) h4 rfl
  have e1 := cell_laid (i := 1) (v := v1) h4 rfl
  have e2 := cell_laid (i := 2) (v := v2) h4 rfl
  have e3 := cell_laid (i := 3) (v := v3) h4 rfl
  have e4 := cell_laid (i := 4) (v := v4) h4 rfl
  have e5 := cell_laid (i := 5) (v := v5) h4 rfl
  have e6 := cell_laid (i := 6) (v := v6) h4 rfl
  have e7 := cell_laid (i := 7) (v := v7) h4 rfl
  have e8 := cell_laid (i := 8) (v := v8) h4 rfl
  have e9 := cell_laid (i := 9) (v := v9) h4 rfl
  have e10 := cell_laid (i := 10) (v := v10) h4 rfl
  have e11 := cell_laid (i := 11) (v := v11) h4 rfl
  simp [results, Tryz.results23, go_sem, e0, e1, e2, e3, e4, e5, e6, e7, e8, e9, e10, e11, q4]
theorem Ask_any (root key : Nat) (V : World) : Calls Tryz.prog 23 #[.int .u64 ((root : Nat) : Int), .int .u64 ((key : Nat) : Int)] V (Ret (lkV (askK root key)) V) := by
  obtain ⟨V1, hV1, hb1, hs1, hl1⟩ := laid V #[.int .i64 0, .int .u64 0, .int .u64 0, .int .u64 0, .int .i64 0, .int .i64 0, .int .u64 0, .int .u64 0, .int .u64 0, .int .u64 0, .int .u64 0, .bool false] 43
  obtain ⟨X, hX⟩ : ∃ x, V.heap.size = x := ⟨_, rfl⟩
  rw [hX] at hl1
  have KX := hid hl1
  have HB := hid hb1
  clear hb1 hs1 hl1
  go_enter Tryz.func23, Tryz.ntmps23
  go_wp2_with (refine wp_storeP rfl 43 (.tmp 4) (.tmp 7) rfl X 0 _ (lk12 (askK root key)) _ rfl rfl _ KX.out (by kernel_rfl) (Nat.le_of_ble_eq_true rfl) (by kernel_rfl) rfl ?_; intro w3 a1 a2 a3 a4; have K3 := hid a1; have HB3 := hid (a3 V.heap.size V (by omega) HB.out); clear a1 a2 a3 a4)
  refine bodyPost_ret (ask_result K3.out rfl) rfl ?_
  exact ⟨rfl, HB3.out⟩
end Go.Proofs.YtahicokokfcieaaGreatDoor
namespace Go.Proofs.YtahicokokfcieaaGreatDoor
open Go.RowKit
open Go.Proofs
set_option linter.unusedVariables false
attribute [local go_sem] Oper.semAt_some
theorem ins1_any (T X H mb p n : Nat) (wa : Option Addr) (wc : Nat) (la : Option Addr) (lc : Nat) (M : Mem) (met : List Nat) (V : World) (hn : M.W.length = n) (hm : M.L.length = n) (hp : p < 18446744073709551616) (h : MemL V wa wc la lc M) (hi : IdsI V mb (ones met)) (hl : met.length ≤ 10000)
    (kX : V.heap[X]? = some (.cells #[.slice wa n wc, .slice la n lc, .bool M.F] 25 (0, 0))) (kH : V.heap[H]? = some (.cells #[.int .u64 ((p : Nat) : Int)] 26 (0, 0))) (kT : V.heap[T]? = some (.cells #[.map (some mb)] 77 (0, 0))) :
    Calls Tryz.prog 42 #[.pointer (some ⟨T, 0, none⟩), .pointer (some ⟨X, 0, none⟩), .pointer (some ⟨H, 0, none⟩)] V (fun e W' => (e = .returned (.tuple #[]) ∧ V.grownBy W' (some mb) ∧ ∃ met', tmeet M p 4 met = some met' ∧ IdsI W' mb (ones met')) ∨ (e = .panicked tbk ∧ V.grownBy W' (some mb) ∧ tmeet M p 4 met = none)) := by
  have HMT := tmeet_any M wa la wc lc mb p 4 met V h (by rw [hn, hm]) hi hp (by decide) (by decide) hl
  have hwl := h.w.len
  have hll := h.l.len
  unfold memV at HMT
  rw [hn] at HMT hwl
  rw [hm] at HMT hll
  have HM := hid HMT
  have x0 := cell_laid (i := 0) kX rfl
  have x1 := cell_laid (i := 1) kX rfl
  have x2 := cell_laid (i := 2) kX rfl
  have xh := cell_laid (i := 0) kH rfl
  have xt := cell_laid (i := 0) kT rfl
  clear HMT h hi kX kH kT
  go_enter Tryz.func42, Tryz.ntmps42
  go_wp2_with fail
  refine HM.out.mono ?_
  rintro e w2 ⟨hg, ⟨met', h1, rfl, h2⟩ | ⟨h1, rfl⟩⟩
  · have HG := hid hg
    have H1 := hid h1
    have H2 := hid h2
    clear hg h1 h2 x0 x1 x2 xh xt
    go_wp2
    go_end0
    exact .inl ⟨rfl, HG.out, met', H1.out, H2.out⟩
  · exact ⟨rfl, .inr ⟨rfl, hg, h1⟩⟩
theorem lay1_any (T X H A K mb root array many n : Nat) (wa : Option Addr) (wc : Nat) (la : Option Addr) (lc : Nat) (M : Mem) (V : World) (hn : M.W.length = n) (hm : M.L.length = n) (hr : root < 18446744073709551616) (ha : array < 18446744073709551616) (hk1 : 1 ≤ many) (hk : many ≤ 16) (h : MemL V wa wc la lc M) (hi : IdsI V mb (ones []))
    (kX : V.heap[X]? = some (.cells #[.slice wa n wc, .slice la n lc, .bool M.F] 25 (0, 0))) (kH : V.heap[H]? = some (.cells #[.int .u64 ((root : Nat) : Int)] 26 (0, 0))) (kA : V.heap[A]? = some (.cells #[.int .u64 ((array : Nat) : Int)] 26 (0, 0))) (kK : V.heap[K]? = some (.cells #[.int .i64 ((many : Nat) : Int)] 3 (0, 0))) (kT : V.heap[T]? = some (.cells #[.map (some mb)] 77 (0, 0))) :
    Calls Tryz.prog 51 #[.pointer (some ⟨T, 0, none⟩), .pointer (some ⟨X, 0, none⟩), .pointer (some ⟨H, 0, none⟩), .pointer (some ⟨A, 0, none⟩), .pointer (some ⟨K, 0, none⟩)] V (fun e W' => (e = .returned (.tuple #[]) ∧ V.grownBy W' (some mb) ∧ ((tmeet M root 1 []).bind fun m => tmeet M array many m).isSome = true) ∨ (e = .panicked tbk ∧ V.grownBy W' (some mb) ∧ ((tmeet M root 1 []).bind fun m => tmeet M array many m) = none)) := by
  have HM := hid (tmeet_any M wa la wc lc mb root 1 [] V h (by rw [hn, hm]) hi hr (by decide) (by decide) (by decide))
  have HM2 := hid (fun (met : List Nat) (W : World) (hl : MemL W wa wc la lc M) (hj : IdsI W mb (ones met)) (hlen : met.length ≤ 10000) => tmeet_any M wa la wc lc mb array many met W hl (by rw [hn, hm]) hj ha hk1 hk hlen)
  have HH := hid h
  have HI := hid hi
  have KX := hid kX
  have KA := hid kA
  have KK := hid kK
  have KT := hid kT
  have hwl := h.w.len
  have hll := h.l.len
  unfold memV at HM HM2
  rw [hn] at HM HM2 hwl
  rw [hm] at HM HM2 hll
  have x0 := cell_laid (i := 0) kX rfl
  have x1 := cell_laid (i := 1) kX rfl
  have x2 := cell_laid (i := 2) kX rfl
  have xh := cell_laid (i := 0) kH rfl
  have xt := cell_laid (i := 0) kT rfl
  clear h hi kX kH kT kA kK
  go_enter Tryz.func51, Tryz.ntmps51
  go_wp2_with fail
  refine HM.out.mono ?_
  rintro e w2 ⟨hg, ⟨met', h1, rfl, h2⟩ | ⟨h1, rfl⟩⟩
  · have HG := hid hg
    have H1 := hid h1
    have H2 := hid h2
    have k2 := keep_grown KX.out hg (idsI_ne HI.out KX.out)
    have x0 := cell_laid (i := 0) k2 rfl
    have x1 := cell_laid (i := 1) k2 rfl
    have x2 := cell_laid (i := 2) k2 rfl
    have xa := cell_laid (i := 0) (keep_grown KA.out hg (idsI_ne HI.out KA.out)) rfl
    have xk := cell_laid (i := 0) (keep_grown KK.out hg (idsI_ne HI.out KK.out)) rfl
    have xt := cell_laid (i := 0) (keep_grown KT.out hg (idsI_ne HI.out KT.out)) rfl
    have hlen : met'.length ≤ 10000 := by
      obtain ⟨-, -, rfl⟩ := tmeet_iff.1 h1
      simp
    have HM3 := hid (HM2.out met' w2 ⟨HH.out.w.grownI HI.out hg, HH.out.l.grownI HI.out hg⟩ h2 hlen)
    clear hg h1 h2 HM2 HM k2 hlen
    go_wp2_with fail
    refine HM3.out.mono ?_
    rintro e w3 ⟨hg, ⟨met2, h1, rfl, h2⟩ | ⟨h1, rfl⟩⟩
    · have HG3 := hid (grownBy_trans HG.out hg)
      have HR : Hid (((tmeet M root 1 []).bind fun m => tmeet M array many m).isSome = true) := hid (by rw [H1.out, Option.bind_some, h1]; rfl)
      clear hg h1 h2 x0 x1 x2 xa xk xt
      go_wp2
      go_end0
      exact .inl ⟨rfl, HG3.out, HR.out⟩
    · exact ⟨rfl, .inr ⟨rfl, grownBy_trans HG.out hg, by rw [H1.out, Option.bind_some, h1]⟩⟩
  · exact ⟨rfl, .inr ⟨rfl, hg, by rw [h1, Option.bind_none]⟩⟩
end Go.Proofs.YtahicokokfcieaaGreatDoor
namespace Go.Proofs.YtahicokokfcieaaGreatDoor
open Go.RowKit
open Go.Proofs
set_option linter.unusedVariables false
/-- A step of who looks: the memory, who looks, whether there was a step. -/
def lookE (M : Mem) (l : Lk) : Mem × Lk × Bool :=
  if l.ph = 0 then
    let g := stepM M false ((min l.root 4096 : Nat) : Int) 0
    match (if g.2.2 = true then saysW g.2.1 else none) with
    | none => (g.1, { l with ph := 3 }, true)
    | some (a, d) => (g.1, { l with ph := 1, array := a, many := ((2 ^ d : Nat) : Int), s := seekK (a + ofN l.key d) (hashN l.key) l.key }, true)
  else if l.ph = 1 then
    let r := sseekP M l.s
    (r.1, { l with s := r.2.1, ph := if r.2.1.ph = 4 then 2 else if r.2.1.ph = 5 then 3 else 1 }, true)
  else (M, l, false)
end Go.Proofs.YtahicokokfcieaaGreatDoor
namespace Go.Proofs.YtahicokokfcieaaGreatDoor
open Go.RowKit
set_option linter.unusedVariables false
/-- An order: q reads (ahead of number m), p reads nothing, h is heavy. -/
inductive TPlan
  | done
  | q (k : Nat) (rest : TPlan)
  | p (k : Nat) (rest : TPlan)
  | h (k : Nat) (rest : TPlan)
  | h2 (k : Nat) (r1 : TPlan) (k' : Nat) (r2 : TPlan)
structure AnyW where
  w : World
instance : Nonempty AnyW := ⟨⟨default⟩⟩
section
variable {P : Program} {ops : Array Oper} {md : Region.Mode} {C : World → Prop} {Q : Exit → Act → World → Prop}
/-- Number j waits for number i, by however many steps. -/
def ancB (md : Region.Mode) (ops : Array Oper) : Nat → Nat → Nat → Bool
  | 0, _, _ => false
  | f + 1, j, i => Region.waitsFor md ops j i || (List.range ops.size).any fun k => Region.waitsFor md ops j k && ancB md ops f k i
theorem anc_listed {n : Nat} {listed : Array Bool} (inv : HeadInv md ops n listed) : ∀ (f j i : Nat), ancB md ops f j i = true → listed.getD j false = true → listed.getD i false = true
  | 0, j, i, h, _ => by simp [ancB] at h
  | f + 1, j, i, h, hj => by
    have one : ∀ k, Region.waitsFor md ops j k = true → listed.getD k false = true := by
      intro k hk
      unfold Region.waitsFor at hk
      cases ho : ops[j]? with
      | none => rw [ho] at hk; cases hk
      | some oj =>
        rw [ho] at hk
        simp only [Array.any_eq_true, Bool.and_eq_true, beq_iff_eq] at hk
        obtain ⟨x, hx, hb, he⟩ := hk
        have := inv.closed j oj ho hj _ (Array.getElem_mem hx) hb
        rw [he] at this
        exact this
    unfold ancB at h
    rw [Bool.or_eq_true] at h
    rcases h with h | h
    · exact one i h
    · obtain ⟨k, -, h⟩ := List.any_eq_true.1 h
      rw [Bool.and_eq_true] at h
      exact anc_listed inv f k i h.2 (one k h.1)
theorem StillIn.mono {C' : World → Prop} {o : Oper} {v : Value} {a : Act} (h : StillIn P ops C o v a) (hc : ∀ w, C' w → C w) : StillIn P ops C' o v a := by
  rcases h with ⟨h1, h2⟩ | h
  · exact .inl ⟨h1, fun w hw => h2 w (hc w hw)⟩
  · exact .inr h
/-- Whatever order is picked: each step leaves a world of the class that what is done by then asks for. -/
def wpAnyD (P : Program) (md : Region.Mode) (ops : Array Oper) (D : Array Bool → World → Prop) (Q : Exit → Act → World → Prop) (L : Array Bool → Act → World → Prop) : Nat → Array Bool → Act → World → Prop
  | 0, listed, a, w => L listed a w
  | f + 1, listed, a, w =>
    Region.ready md ops listed ≠ [] ∧ ∀ i ∈ Region.ready md ops listed, wpOp P ops (outQ (fun _ _ => False) Q) i (fun a' w' => D (listed.setIfInBounds i true) w' ∧ wpAnyD P md ops D Q L f (listed.setIfInBounds i true) a' w') a w
theorem wpAny_of_D {D : Array Bool → World → Prop} {L : Array Bool → Act → World → Prop} (hL : ∀ listed a w, L listed a w → wpAny P md ops Q 0 listed a w) :
    ∀ (f : Nat) (listed : Array Bool) (a : Act) (w : World), wpAnyD P md ops D Q L f listed a w → wpAny P md ops Q f listed a w
  | 0, listed, a, w, h => hL _ _ _ h
  | f + 1, listed, a, w, h => ⟨fun h0 => absurd h0 h.1, fun i hi => wpOp_exit (Q₁ := outQ (fun _ _ => False) Q) (fun _ _ _ (h : False) => h.elim) (fun ⟨a, w, h⟩ => ⟨a, w, h⟩) (wpOp_mono (fun a' w' h' => wpAny_of_D hL f _ a' w' h'.2) (h.2 i hi))⟩
theorem wpAnyD_first {i : Nat} {oi : Oper} {v : Value} {D : Array Bool → World → Prop} {L : Array Bool → Act → World → Prop} (hi : ops[i]? = some oi) (hsel : ∀ (j : Nat) (o : Oper) cs b, ops[j]? = some o → o.op ≠ .select cs b)
    (hin : i < ops.size) (hdone : ∀ listed a w, L listed a w → Region.ready md ops listed = []) (hD : ∀ listed w, D (listed.setIfInBounds i true) w ↔ D listed w) (hC : ∀ listed w, HeadInv md ops ops.size listed → listed.getD i true = false → D listed w → C w) :
    ∀ (f : Nat) (listed : Array Bool) (a : Act) (w : World), D listed w → HeadInv md ops ops.size listed →
      (∀ j oj, ops[j]? = some oj → j ≠ i → listed.getD j true = false → (∀ e ∈ oj.after, Region.binds md e = true → e.on ≠ i) → oi.apart ops oj = true) →
      i ∈ Region.ready md ops listed → StillIn P ops C oi v a →
      wpAnyD P md ops D Q L f (listed.setIfInBounds i true) (a.put oi.dst v) w → wpAnyD P md ops D Q L (f + 1) listed a w := by
  intro f
  induction f with
  | zero =>
    intro listed a w hDw inv _ hr hy H
    have hun := (mem_ready.1 hr).1
    refine ⟨fun h => (by rw [h] at hr; cases hr), fun j hj => ?_⟩
    by_cases hji : j = i
    · subst hji; exact hy.wpOp hi (hC _ _ inv hun hDw) ⟨(hD _ _).2 hDw, H⟩
    · have := hdone _ _ _ H
      have h2 := ready_mono hj hji
      rw [this] at h2
      cases h2
  | succ f ih =>
    intro listed a w hDw inv hfree hr hy H
    have hun := (mem_ready.1 hr).1
    refine ⟨fun h => (by rw [h] at hr; cases hr), fun j hj => ?_⟩
    by_cases hji : j = i
    · subst hji; exact hy.wpOp hi (hC _ _ inv hun hDw) ⟨(hD _ _).2 hDw, H⟩
    · have h1 := H.2 j (ready_mono hj hji)
      obtain ⟨hjun, oj, hoj, hall⟩ := mem_ready.1 hj
      have hnot : ∀ e ∈ oj.after, Region.binds md e = true → e.on ≠ i := fun e he hb heq => by
        have h1 := hall e he hb
        rw [heq, getD_both hun] at h1
        cases h1
      have hjn : j < ops.size := (Array.getElem?_eq_some_iff.1 hoj).1
      have hfree' : ∀ k ok, ops[k]? = some ok → k ≠ i → (listed.setIfInBounds j true).getD k true = false →
          (∀ e ∈ ok.after, Region.binds md e = true → e.on ≠ i) → oi.apart ops ok = true := fun k ok hk hki hun hno => by
        refine hfree k ok hk hki ?_ hno
        by_cases hjk : j = k
        · subst hjk; exact hjun
        · rw [getD_set_ne true hjk] at hun; exact hun
      refine wpOp_put hoj (hfree j oj hoj hji hjun hnot) (fun cs b => hsel i oi cs b hi) (fun cs b => hsel j oj cs b hoj) hy (fun a' w' hy' h3 => ?_) h1
      have h4 : D (listed.setIfInBounds j true) w' := (hD _ _).1 (by rw [Array.setIfInBounds_comm _ _ hji]; exact h3.1)
      refine ⟨h4, ih (listed.setIfInBounds j true) a' w' h4 (inv.set hj hjn) hfree' (ready_mono hr (Ne.symm hji)) hy' ?_⟩
      rw [Array.setIfInBounds_comm _ _ hji]
      exact h3.2
/-- The class that what is done by then asks for: ahead of number m. -/
def upto (m : Nat) (C : World → Prop) (listed : Array Bool) (w : World) : Prop := listed.getD m true = false → C w
/-- The operations in an order; b: number m is done. -/
def wpTurn (P : Program) (ops : Array Oper) (m : Nat) (C : World → Prop) (Q : Exit → Act → World → Prop) (K : Act → World → Prop) : TPlan → Bool → Act → World → Prop
  | .done, _, a, w => K a w
  | .h k rest, b, a, w => ∃ o, ops.toList[k]? = some o ∧ ∀ R : Exit → Act → World → Prop, (∀ a' w', ((b || k == m) = false → C w') → wpTurn P ops m C Q K rest (b || k == m) a' w' → R .normal a' w') → (∀ a w, Q .outgrown a w → R .outgrown a w) → wpList P ops R [o] a w
  | .q k rest, b, a, w => ∃ o, ops.toList[k]? = some o ∧ noGo o = true ∧ wpQuiet P ops C (fun a' => wpTurn P ops m C Q K rest b a' w) [o] a
  | .p k rest, b, a, w => ∃ o, ops.toList[k]? = some o ∧ noGo o = true ∧ wpQuiet P ops (fun w => ∃ z : AnyW, w = z.w) (fun a' => wpTurn P ops m C Q K rest b a' w) [o] a
  | .h2 k r1 k' r2, b, a, w =>
    (∃ o, ops.toList[k]? = some o ∧ ∀ R : Exit → Act → World → Prop, (∀ a' w', ((b || k == m) = false → C w') → wpTurn P ops m C Q K r1 (b || k == m) a' w' → R .normal a' w') → (∀ a w, Q .outgrown a w → R .outgrown a w) → wpList P ops R [o] a w) ∧
    (∃ o, ops.toList[k']? = some o ∧ ∀ R : Exit → Act → World → Prop, (∀ a' w', ((b || k' == m) = false → C w') → wpTurn P ops m C Q K r2 (b || k' == m) a' w' → R .normal a' w') → (∀ a w, Q .outgrown a w → R .outgrown a w) → wpList P ops R [o] a w)
theorem wpTurn_q {m : Nat} {b : Bool} {K : Act → World → Prop} {k : Nat} {rest : TPlan} {a : Act} {w : World} {o : Oper} (ho : ops.toList[k]? = some o) (hg : noGo o = true)
    (h : wpQuiet P ops C (fun a' => wpTurn P ops m C Q K rest b a' w) [o] a) : wpTurn P ops m C Q K (.q k rest) b a w := ⟨o, ho, hg, h⟩
theorem wpTurn_p {m : Nat} {b : Bool} {K : Act → World → Prop} {k : Nat} {rest : TPlan} {a : Act} {w : World} {o : Oper} (ho : ops.toList[k]? = some o) (hg : noGo o = true)
    (h : wpQuiet P ops (fun w => ∃ z : AnyW, w = z.w) (fun a' => wpTurn P ops m C Q K rest b a' w) [o] a) : wpTurn P ops m C Q K (.p k rest) b a w := ⟨o, ho, hg, h⟩
/-- A heavy one ahead of number m. -/
theorem wpTurn_h {m : Nat} {K : Act → World → Prop} {k : Nat} {rest : TPlan} {a : Act} {w : World} {o : Oper} (ho : ops.toList[k]? = some o) (hk : (k == m) = false)
    (h : ∀ R : Exit → Act → World → Prop, (∀ a' w', C w' → wpTurn P ops m C Q K rest false a' w' → R .normal a' w') → (∀ a w, Q .outgrown a w → R .outgrown a w) → wpList P ops R [o] a w) : wpTurn P ops m C Q K (.h k rest) false a w := by
  refine ⟨o, ho, fun R hR hO => h R (fun a' w' hC hw => hR a' w' (fun _ => hC) ?_) hO⟩
  rw [hk]; exact hw
/-- Number m itself. -/
theorem wpTurn_m {m : Nat} {K : Act → World → Prop} {rest : TPlan} {a : Act} {w : World} {o : Oper} (ho : ops.toList[m]? = some o)
    (h : ∀ R : Exit → Act → World → Prop, (∀ a' w', wpTurn P ops m C Q K rest true a' w' → R .normal a' w') → (∀ a w, Q .outgrown a w → R .outgrown a w) → wpList P ops R [o] a w) : wpTurn P ops m C Q K (.h m rest) false a w := by
  refine ⟨o, ho, fun R hR hO => h R (fun a' w' hw => hR a' w' (fun hb => by simp at hb) ?_) hO⟩
  rw [show (false || m == m) = true by simp]; exact hw
/-- One behind it. -/
theorem wpTurn_b {m : Nat} {K : Act → World → Prop} {k : Nat} {rest : TPlan} {a : Act} {w : World} {o : Oper} (ho : ops.toList[k]? = some o)
    (h : ∀ R : Exit → Act → World → Prop, (∀ a' w', wpTurn P ops m C Q K rest true a' w' → R .normal a' w') → (∀ a w, Q .outgrown a w → R .outgrown a w) → wpList P ops R [o] a w) : wpTurn P ops m C Q K (.h k rest) true a w := by
  refine ⟨o, ho, fun R hR hO => h R (fun a' w' hw => hR a' w' (fun hb => by simp at hb) ?_) hO⟩
  rw [Bool.true_or]; exact hw
theorem wpTurn_done {m : Nat} {b : Bool} {K : Act → World → Prop} {a : Act} {w : World} (h : K a w) : wpTurn P ops m C Q K .done b a w := h
def turnB' (md : Region.Mode) (ops : Array Oper) (m : Nat) : Nat → TPlan → Array Bool → Bool
  | 0, .done, listed => decide (Region.ready md ops listed = []) && Region.seqB md ops 0 ops.size listed
  | f + 1, .h k rest, listed => decide (Region.ready md ops listed = [k]) && decide (k < ops.size) && turnB' md ops m f rest (listed.setIfInBounds k true)
  | f + 1, .q k rest, listed => decide (k < ops.size) && decide (k ≠ m) && ancB md ops ops.size m k && (Region.ready md ops listed).contains k && Region.free md ops listed k && turnB' md ops m f rest (listed.setIfInBounds k true)
  | f + 1, .p k rest, listed => decide (k < ops.size) && decide (k ≠ m) && (Region.ready md ops listed).contains k && Region.free md ops listed k && turnB' md ops m f rest (listed.setIfInBounds k true)
  | f + 1, .h2 k r1 k' r2, listed => decide (Region.ready md ops listed = [k, k']) && decide (k < ops.size) && decide (k' < ops.size) && turnB' md ops m f r1 (listed.setIfInBounds k true) && turnB' md ops m f r2 (listed.setIfInBounds k' true)
  | _, _, _ => false
theorem upto_other {m i : Nat} (h : i ≠ m) (listed : Array Bool) (w : World) : upto m C (listed.setIfInBounds i true) w ↔ upto m C listed w := by
  unfold upto
  rw [getD_set_ne true h]
theorem wpOp_turn {K : Act → World → Prop} {X : World → Prop} {i : Nat} {a : Act} {w : World} {o : Oper} (ho : ops.toList[i]? = some o)
    (h : ∀ R : Exit → Act → World → Prop, (∀ a' w', X w' → K a' w' → R .normal a' w') → (∀ a w, Q .outgrown a w → R .outgrown a w) → wpList P ops R [o] a w) :
    wpOp P ops (outQ (fun _ _ => False) Q) i (fun a' w' => X w' ∧ K a' w') a w := wpOp_heavy (C := X) ho h
theorem turn_plan {m : Nat} {K : Act → World → Prop} (hsel : Region.noSelect ops = true) (hm : m < ops.size) :
    ∀ (f : Nat) (plan : TPlan) (b : Bool) (listed : Array Bool) (a : Act) (w : World), listed.getD m true = b → upto m C listed w → HeadInv md ops ops.size listed → turnB' md ops m f plan listed = true → wpTurn P ops m C Q K plan b a w →
    wpAnyD P md ops (upto m C) Q (fun listed' a' w' => Region.ready md ops listed' = [] ∧ Region.seqB md ops 0 ops.size listed' = true ∧ K a' w') f listed a w
  | 0, .done, b, listed, a, w, _, _, _, hB, h => by
    simp only [turnB', Bool.and_eq_true, decide_eq_true_eq] at hB
    exact ⟨hB.1, hB.2, h⟩
  | 0, .q _ _, _, _, _, _, _, _, _, hB, _ => by simp [turnB'] at hB
  | 0, .p _ _, _, _, _, _, _, _, _, hB, _ => by simp [turnB'] at hB
  | 0, .h _ _, _, _, _, _, _, _, _, hB, _ => by simp [turnB'] at hB
  | 0, .h2 _ _ _ _, _, _, _, _, _, _, _, hB, _ => by simp [turnB'] at hB
  | f + 1, .done, _, _, _, _, _, _, _, hB, _ => by simp [turnB'] at hB
  | f + 1, .h k rest, b, listed, a, w, hb, hC, inv, hB, h => by
    simp only [turnB', Bool.and_eq_true, decide_eq_true_eq] at hB
    obtain ⟨⟨hr, hk⟩, hB⟩ := hB
    obtain ⟨o, ho, h⟩ := h
    refine ⟨by rw [hr]; simp, fun i hi => ?_⟩
    have hi' := hi
    rw [hr] at hi
    obtain rfl : i = k := by simpa using hi
    have hb' : (listed.setIfInBounds i true).getD m true = (b || i == m) := by
      by_cases e : i = m
      · subst e; simp [inv.size, hk]
      · rw [getD_set_ne true e, hb]; simp [e]
    refine wpOp_mono (fun a' w' h' => ⟨h'.1, turn_plan hsel hm f rest _ _ a' w' hb' h'.1 (inv.set hi' hk) hB h'.2⟩) (wpOp_turn (X := upto m C (listed.setIfInBounds i true)) ho fun R hR hO => h R (fun a' w' hC' hw => hR a' w' ?_ hw) hO)
    unfold upto
    rw [hb']
    exact hC'
  | f + 1, .h2 k r1 k' r2, b, listed, a, w, hb, hC, inv, hB, h => by
    simp only [turnB', Bool.and_eq_true, decide_eq_true_eq] at hB
    obtain ⟨⟨⟨⟨hr, hk⟩, hk'⟩, hB1⟩, hB2⟩ := hB
    obtain ⟨⟨o1, ho1, h1⟩, ⟨o2, ho2, h2⟩⟩ := h
    have hbb : ∀ i, i < ops.size → (listed.setIfInBounds i true).getD m true = (b || i == m) := by
      intro i hi
      by_cases e : i = m
      · subst e; simp [inv.size, hi]
      · rw [getD_set_ne true e, hb]; simp [e]
    refine ⟨by rw [hr]; simp, fun i hi => ?_⟩
    have hi' := hi
    rw [hr] at hi
    have hi2 : i = k ∨ i = k' := by simpa using hi
    rcases hi2 with rfl | rfl
    · refine wpOp_mono (fun a' w' h' => ⟨h'.1, turn_plan hsel hm f r1 _ _ a' w' (hbb _ hk) h'.1 (inv.set hi' hk) hB1 h'.2⟩) (wpOp_turn (X := upto m C (listed.setIfInBounds i true)) ho1 fun R hR hO => h1 R (fun a' w' hC' hw => hR a' w' ?_ hw) hO)
      unfold upto
      rw [hbb _ hk]
      exact hC'
    · refine wpOp_mono (fun a' w' h' => ⟨h'.1, turn_plan hsel hm f r2 _ _ a' w' (hbb _ hk') h'.1 (inv.set hi' hk') hB2 h'.2⟩) (wpOp_turn (X := upto m C (listed.setIfInBounds i true)) ho2 fun R hR hO => h2 R (fun a' w' hC' hw => hR a' w' ?_ hw) hO)
      unfold upto
      rw [hbb _ hk']
      exact hC'
  | f + 1, .q k rest, b, listed, a, w, hb, hC, inv, hB, h => by
    simp only [turnB', Bool.and_eq_true, decide_eq_true_eq] at hB
    obtain ⟨⟨⟨⟨⟨hk, hkm⟩, hanc⟩, hr⟩, hf⟩, hB⟩ := hB
    obtain ⟨o, ho, hg, h⟩ := h
    have ho' : ops[k]? = some o := by simpa using ho
    have hr' : k ∈ Region.ready md ops listed := by simpa using hr
    obtain ⟨v, hy, hK⟩ := stillIn_of_quiet hg h
    exact wpAnyD_first (C := C) ho' (Region.noSelect_spec hsel) hk (fun _ _ _ hL => hL.1) (upto_other hkm)
      (fun listed' w' inv' hun hu => hu (by
        have h1 : listed'.getD m false ≠ true := fun hm' => by
          have := anc_listed inv' _ _ _ hanc hm'
          rw [getD_both hun] at this
          cases this
        refine getD_in (by rw [inv'.size]; exact hm) ?_
        cases hx : listed'.getD m false
        · rfl
        · exact absurd hx h1)) f listed a w hC inv (Region.free_spec ho' hf) hr' hy
      (turn_plan hsel hm f rest b _ _ w (by rw [getD_set_ne true hkm]; exact hb) ((upto_other hkm _ _).2 hC) (inv.set hr' hk) hB hK)
  | f + 1, .p k rest, b, listed, a, w, hb, hC, inv, hB, h => by
    simp only [turnB', Bool.and_eq_true, decide_eq_true_eq] at hB
    obtain ⟨⟨⟨⟨hk, hkm⟩, hr⟩, hf⟩, hB⟩ := hB
    obtain ⟨o, ho, hg, h⟩ := h
    have ho' : ops[k]? = some o := by simpa using ho
    have hr' : k ∈ Region.ready md ops listed := by simpa using hr
    obtain ⟨v, hy, hK⟩ := stillIn_of_quiet hg h
    exact wpAnyD_first (C := fun w => ∃ z : AnyW, w = z.w) ho' (Region.noSelect_spec hsel) hk (fun _ _ _ hL => hL.1) (upto_other hkm)
      (fun _ w' _ _ _ => ⟨⟨w'⟩, rfl⟩) f listed a w hC inv (Region.free_spec ho' hf) hr' hy
      (turn_plan hsel hm f rest b _ _ w (by rw [getD_set_ne true hkm]; exact hb) ((upto_other hkm _ _).2 hC) (inv.set hr' hk) hB hK)
/-- The order is one that the region's edges allow. -/
def turnB (md : Region.Mode) (ops : Array Oper) (m : Nat) (plan : TPlan) : Bool :=
  Region.noSelect ops && decide (m < ops.size) && turnB' md ops m ops.size plan (Array.replicate ops.size false)
/-- ONE WALK SERVES EVERY ORDER: the class holds up to number m. -/
theorem wp_region_turn {id : Nat} {a : Act} {w : World} {l : List Oper} (C : World → Prop) (m : Nat) (plan : TPlan) (hm : P.follows .mixedOrders = true) (hB : turnB .any l.toArray m plan = true) (hC : C w.drew)
    (h : wpTurn P l.toArray m C Q (fun a' w' => wpList P l.toArray Q [] a' w') plan false a w.drew) : (Code.region id l.toArray true).wp P Q a w := by
  simp only [turnB, Bool.and_eq_true, decide_eq_true_eq] at hB
  obtain ⟨⟨hsel, hms⟩, hplan⟩ := hB
  have inv0 : HeadInv .any l.toArray l.toArray.size (Array.replicate l.toArray.size false) :=
    ⟨by simp, fun j oj _ hl => (by rw [getD_replicate_false] at hl; cases hl), fun t _ ht => getD_in (by simpa using ht) (getD_replicate_false _ _)⟩
  have H := turn_plan (md := .any) hsel hms _ plan false _ a w.drew (getD_in (by simpa using hms) (getD_replicate_false _ _)) (fun _ => hC) inv0 hplan h
  refine wp_region_any hm ?_
  exact wpAny_of_D (fun listed a' w' hL => by
    have := wpAny_of_seq (md := .any) (Q' := Q) [] l.toArray.size listed a' w' (fun j => by simp) (by simpa using hL.2.1) hL.2.2
    simpa using this) _ _ _ _ H
end
end Go.Proofs.YtahicokokfcieaaGreatDoor
