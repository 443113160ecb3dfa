/- Scripts: Read, Of, own as their callers take them. -/
import Derived.Test.YtpehnahmdfoobaaDoorScript19
import Derived.Test.YtpehnahmdfoobaaDoorScriptPlain3
namespace Go.Proofs.YtpehnahmdfoobaaDoor
open Go.RowKit
open Go.Proofs
set_option linter.unusedVariables false

/-- A call gives a script. -/
def GivesS (S : Scr) (w : World) (e : Ending) (W : World) : Prop := ∃ la lc vs pa pc, e = .returned (scrV la lc pa pc S) ∧ ScrL W la lc vs pa pc S ∧ Below w.heap.size w W
theorem Read_S (l : List Nat) (a : Option Addr) (n c : Nat) (w : World) (hl : l.length = n) (hn : n ≤ 10000) (hlb : ∀ x ∈ l, x < 18446744073709551616) (h : Leads w a n c (wcells l)) (hG : Glob w) :
    Calls Tryd.prog 13 #[.slice a n c] w (GivesS (rdS l) w) := by
  refine (Read_any l a n c w hl hn hlb h hG).mono ?_
  rintro e W ⟨g, vs, pv, base, rfl, R, a', r', c', calls', hJ⟩
  obtain ⟨pa, pc, hpv, hSL⟩ := hJ.scrL (readC_in l).2.1
  subst hpv
  refine ⟨some ⟨g, 0, none⟩, readC l, vs, pa, pc, ?_, hSL, hJ.below⟩
  have e1 : (rdS l).ls.length = readC l := hJ.llen
  unfold scrV
  rw [e1]
  rfl
theorem own_S (S : Scr) (la pa : Option Addr) (lc pc : Nat) (vs : List Value) (w : World) (hS : S.Ok) (h : ScrL w la lc vs pa pc S) :
    Calls Tryd.prog 17 #[scrV la lc pa pc S] w (GivesS (ownS S) w) := by
  refine (own_any S la pa lc pc vs w hS h).mono ?_
  rintro e W ⟨Y, base, lv, pv, vs', rfl, hO⟩
  obtain ⟨la', lc', pa', pc', rfl, rfl, hSL⟩ := hO.scrL
  exact ⟨la', lc', vs', pa', pc', rfl, hSL, hO.below⟩
theorem ownS_ok {S : Scr} (h : S.Ok) : (ownS S).Ok := by
  have hm : ∀ cs ∈ (ownS S).ls, ∀ q ∈ cs, ∃ cs' ∈ S.ls, q ∈ cs' := by
    intro cs hcs q hq
    obtain ⟨cs', h1, rfl⟩ := List.mem_map.1 hcs
    exact ⟨cs', List.mem_of_mem_take h1, List.mem_of_mem_take hq⟩
  refine ⟨fun cs hcs q hq => ?_, fun cs hcs q hq => ?_, h.C, h.P, fun z hz => h.picks z (List.mem_of_mem_take hz)⟩
  · obtain ⟨cs', h1, h2⟩ := hm cs hcs q hq
    exact h.five cs' h1 q h2
  · obtain ⟨cs', h1, h2⟩ := hm cs hcs q hq
    exact h.word cs' h1 q h2
theorem ownS_few (S : Scr) : (ownS S).ls.length ≤ 10 ∧ ∀ cs ∈ (ownS S).ls, cs.length ≤ 70 := by
  unfold ownS
  refine ⟨by simp only [List.length_map, List.length_take]; omega, fun cs hcs => ?_⟩
  obtain ⟨cs', h1, rfl⟩ := List.mem_map.1 hcs
  rw [List.length_take]; omega
theorem okS_few {S : Scr} (h : okS S = true) : S.ls.length ≤ 1000 ∧ ∀ cs ∈ S.ls, cs.length ≤ 1000 := by
  obtain ⟨C, P, -, -, -, c8, -, -, hl, -, hs, -⟩ := okS_spec h
  refine ⟨by omega, fun cs hcs => ?_⟩
  obtain ⟨i, hi⟩ := List.getElem?_of_mem hcs
  have h1 := sum_take S.ls i cs hi
  have h2 : sumS (S.ls.take (i + 1)) ≤ sumS S.ls := by
    have e := congrArg sumS (List.take_append_drop (i + 1) S.ls)
    rw [sumS_app] at e
    omega
  omega
theorem flatR_len (l : List (Int × Nat)) (h : ∀ p ∈ l, 1 ≤ p.2) : l.length ≤ (flatR l).length := by
  induction l with
  | nil => simp
  | cons p l ih =>
    have h1 := h p (List.mem_cons_self ..)
    have h2 := ih fun q hq => h q (List.mem_cons_of_mem _ hq)
    have e : flatR (p :: l) = List.replicate p.2 p.1 ++ flatR l := by simp [flatR]
    rw [e, List.length_append, List.length_replicate, List.length_cons]; omega
theorem runs_few (l : List Int) : (runsL l).length ≤ l.length := by
  have := flatR_len (runsL l) fun p hp => (runs_memL hp).1
  rwa [runs_flatL] at this
theorem ofW_len {S : Scr} (h : okS S = true) (hS : S.Ok) : (ofW S).length ≤ 4481 := by
  obtain ⟨C, P, -, -, -, c8, -, -, hl, h4, hs, -⟩ := okS_spec h
  have h1 := listW_len S.ls 0 hS.five
  have h2 := runs_few S.ps
  unfold ofW runW
  rw [List.length_append, List.length_cons, h1, List.length_map]
  omega
theorem listW_word (C : Nat) (hC : C ≤ 8) : ∀ (ls : List (List (List Nat))) (cpu : Nat), cpu + ls.length ≤ C → (∀ cs ∈ ls, ∀ q ∈ cs, ∀ v ∈ q, v < 18446744073709551616) → ∀ x ∈ listW cpu ls, x < 18446744073709551616
  | [], _, _, _, x, hx => by cases hx
  | l :: r, cpu, hl, hw, x, hx => by
    rw [List.length_cons] at hl
    rcases List.mem_append.1 hx with hx | hx
    · obtain ⟨q, hq, hx⟩ := List.mem_flatMap.1 hx
      rcases List.mem_cons.1 hx with rfl | hx
      · unfold wdC; omega
      · exact hw l (List.mem_cons_self ..) q hq x hx
    · exact listW_word C hC r (cpu + 1) (by omega) (fun cs hcs => hw cs (List.mem_cons_of_mem _ hcs)) x hx
theorem ofW_word {S : Scr} (h : okS S = true) (hS : S.Ok) : ∀ x ∈ ofW S, x < 18446744073709551616 := by
  obtain ⟨C, P, eC, eP, c1, c8, p1, p64, hl, h4, hs, hz⟩ := okS_spec h
  intro x hx
  unfold ofW at hx
  rcases List.mem_append.1 hx with hx | hx
  · rcases List.mem_cons.1 hx with rfl | hx
    · unfold wdA; omega
    · exact listW_word C c8 S.ls 0 (by omega) hS.word x hx
  · obtain ⟨p, hp, rfl⟩ := List.mem_map.1 hx
    have := runs_memL hp
    have := hz p.1 (runsL_in _ _ p hp)
    unfold wdR; omega
/-- Of gives the words, and no error. -/
def GivesW (l : List Nat) (w : World) (e : Ending) (W : World) : Prop := ∃ a c, e = .returned (.tuple #[.slice a l.length c, .int .i64 0]) ∧ Leads W a l.length c (wcells l) ∧ Below w.heap.size w W
theorem Of_S (S : Scr) (la pa : Option Addr) (lc pc : Nat) (vs : List Value) (w : World) (h : ScrL w la lc vs pa pc S) (hS : S.Ok) (hG : Glob w) (hyes : okS S = true) :
    Calls Tryd.prog 18 #[scrV la lc pa pc S] w (GivesW (ofW S) w) := by
  refine (Of_ok S la pa lc pc vs w h hS hG hyes).mono ?_
  rintro e W ⟨v, base, rfl, ho, -, hb⟩
  obtain ⟨a, c, rfl, hl⟩ := Leads.of_own ho
  exact ⟨a, c, rfl, hl, hb⟩
theorem sameS_self (S : Scr) : sameS S S = true := by unfold sameS; simp
theorem Same_S (S : Scr) (la lb pa pb : Option Addr) (lc ld pc pd : Nat) (vs us : List Value) (w : World) (hS : S.Ok) (h : ScrL w la lc vs pa pc S) (h' : ScrL w lb ld us pb pd S) :
    Calls Tryd.prog 19 #[scrV la lc pa pc S, scrV lb ld pb pd S] w (Ret (.bool true) w) := by
  have := Same_any S S la lb pa pb lc ld pc pd vs us w hS hS h h'
  rwa [sameS_self] at this
theorem Check_S (S : Scr) (la pa : Option Addr) (lc pc : Nat) (vs : List Value) (w : World) (h : ScrL w la lc vs pa pc S) (hyes : okS S = true) :
    Calls Tryd.prog 20 #[scrV la lc pa pc S] w (Ret (.int .i64 0) w) := by
  have := Check_any S la pa lc pc vs w h (okS_few hyes).1 (okS_few hyes).2
  rwa [hyes, if_pos rfl] at this
/-- Words of one's own script, read again. -/
theorem Read_of_S (S : Scr) (a : Option Addr) (c : Nat) (w : World) (hS : S.Ok) (hyes : okS S = true) (h : Leads w a (ofW S).length c (wcells (ofW S))) (hG : Glob w) :
    Calls Tryd.prog 13 #[.slice a (ofW S).length c] w (GivesS S w) := by
  have := Read_S (ofW S) a _ c w rfl (by have := ofW_len hyes hS; omega) (ofW_word hyes hS) h hG
  rwa [read_of S hyes hS] at this
end Go.Proofs.YtpehnahmdfoobaaDoor
