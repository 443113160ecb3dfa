/- The iterator over the parts of a text. -/
import Derived.Test.YtbfhppafffhlkaaProg
import Derived.Test.YtbfhppafffhlkaaRange
import Derived.Test.YtbfhppafffhlkaaPathPlain
import Derived.Test.YtbfhppafffhlkaaShelf
import Derived.Lib.IndexBytes
import Derived.RangeFuncNested
import Derived.RangeFuncBound
import Derived.RangeFuncCalls
import Derived.RangeFuncLeaves
import Derived.Shelf.Abstract
import Derived.OwnWalkIn
import Derived.TacticsInMore
import Derived.LoopNIn
import Derived.LoopIn
import Derived.OneCell
namespace Go.Proofs.Ytbfhppafffhlkaa
open Go.RowKit Go.Shelf
open Go.Proofs
set_option linter.unusedVariables false
attribute [local go_sem] Oper.semAt_some

def strAt (Bs : Nat) (w : World) : Nat := match w.cell? ⟨Bs, 0, none⟩ with
  | some (.string t) => t.size
  | _ => 0
theorem strAt_one {Bs : Nat} {w : World} {t : ByteArray} {T : TypeId} (h : w.heap[Bs]? = some (.cells #[.string t] T (0, 0))) : strAt Bs w = t.size := by unfold strAt; rw [cell_of_one h]

theorem seg_step (t : ByteArray) (r : List UInt8) (h : t.data.toList = 47 :: r) : (t.extract 1 ((Pth.fw r).length + 1)).data.toList = Pth.fw r ∧ (t.extract ((Pth.fw r).length + 1) t.size).data.toList = Pth.bw r ∧ t.size = r.length + 1 := by
  refine ⟨?_, ?_, ?_⟩
  · rw [Lib.extract_data, h, Nat.add_sub_cancel]; exact Pth.take_fw r
  · rw [Lib.extract_to_end, h]; exact Pth.drop_fw r
  · rw [Lib.size_eq, h]; rfl

set_option maxRecDepth 100000 in
set_option maxHeartbeats 1000000 in
theorem each_seq (Bs s0 : Nat) (s : ByteArray) (hs : s.size ≤ 1000) :
    SeqT (Turn Bs s0) Fence.wide 4 Try.prog 56 #[.pointer (some ⟨Bs, 0, none⟩)] (fun x : ByteArray => #[Value.string x]) (Keeps (· = Bs)) (fun xs => xs.map (·.data.toList) = Pth.segs s.data.toList) (fun pre => ∃ r, Pth.segs s.data.toList = pre.map (·.data.toList) ++ r) 1001
      (fun W => W.heap[Bs]? = some (.cells #[.string s] 9 (0, 0))) := by
  intro l J Jx W hW hJ hJx hY h0
  refine callsIn_of_wp Try.func56 rfl trivial ?_ rfl
  simp only [Try.ntmps56, List.size_toArray, List.length_cons, List.length_nil, Nat.reduceAdd, Nat.reduceSub, Array.replicate_succ, Array.replicate_zero, List.push_toArray, List.append_toArray, List.nil_append, List.cons_append]
  gi_wp2
  gi_loopw [3] (fun n wr => ∃ (t : ByteArray) (pre : List ByteArray), wr.heap[Bs]? = some (.cells #[.string t] 9 (0, 0)) ∧ Hid (Pth.segs s.data.toList = pre.map (·.data.toList) ++ Pth.segs t.data.toList) ∧ pre.length + t.size ≤ s.size ∧ J pre wr) (fun _ wr => strAt Bs wr)
  case atStart => exact ⟨s, [], hW, rfl, by simp, h0⟩
  case round =>
    obtain ⟨t, pre, hb, hseg, hlen, hJs⟩ := hrel
    have hc := cell_of_one hb
    have hf := free_of_one hb
    have HB := hid hb
    clear hb
    cases hp : Lib.hasPrefix t.data.toList [47] with
    | false =>
      have HP := hid (Try.strings_HasPrefix t ⟨#[47]⟩ wr)
      have hp' : Lib.hasPrefix t.data.toList (⟨#[47]⟩ : ByteArray).data.toList = false := hp
      rw [hp'] at HP
      have hno : Pth.segs t.data.toList = [] := Pth.segs_no _ fun h => by
        cases ht : t.data.toList with
        | nil => rw [ht] at h; cases h
        | cons c r =>
          rw [ht] at h hp
          simp at h
          subst h
          rw [(Pth.head_prefix _).2 ⟨r, rfl⟩] at hp
          cases hp
      have hend : pre.map (·.data.toList) = Pth.segs s.data.toList := by rw [hseg.out, hno, List.append_nil]
      have HE := hid hend
      clear hp hp' hno hend
      gi_wp2_with (refine ⟨trivial, ?_⟩; gi_at_call 57; refine (callsIn_wide.2 HP.out).mono ?_; rintro e w1 ⟨rfl, rfl⟩)
      go_end0
      exact ⟨⟨_, rfl⟩, .inl ⟨pre, HE.out, hJs⟩⟩
    | true =>
      obtain ⟨r, hr⟩ := (Pth.head_prefix _).1 hp
      have HP := hid (Try.strings_HasPrefix t ⟨#[47]⟩ wr)
      have hp' : Lib.hasPrefix t.data.toList (⟨#[47]⟩ : ByteArray).data.toList = true := hp
      rw [hp'] at HP
      obtain ⟨hx, ht, hsz⟩ := seg_step t r hr
      have hr1 : (t.extract 1 t.size).data.toList = r := by rw [Lib.extract_to_end, hr]; rfl
      have HI := hid (Try.strings_IndexByte (t.extract 1 t.size) 47 wr)
      rw [hr1, show ((47 : Int).toNat.toUInt8) = 47 from rfl, Pth.index_fw] at HI
      obtain ⟨n, hn⟩ : ∃ n, (Pth.fw r).length = n := ⟨_, rfl⟩
      have hnr : n ≤ r.length := hn ▸ Pth.fw_le r
      rw [hn] at hx ht HI
      have hseg2 : Pth.segs s.data.toList = (pre ++ [t.extract 1 (n + 1)]).map (·.data.toList) ++ Pth.segs (t.extract (n + 1) t.size).data.toList := by
        rw [hseg.out, hr, Pth.segs_cons, List.map_append, List.map_singleton, hx, ht, List.append_assoc]; rfl
      have HS := hid hseg2
      have hsz2 : (t.extract (n + 1) t.size).size = t.size - (n + 1) := by rw [Lib.size_eq, ht, ← Pth.drop_fw, List.length_drop, hn]; omega
      have HZ := hid hsz2
      have hst := strAt_one HB.out
      have HT := hid hst
      obtain ⟨fn, tmps, assign, body, hy, hR⟩ := hY pre (t.extract 1 (n + 1)) wr hJs (by omega)
      have h1 : 1 ≤ t.size := by omega
      have hnt : n + 1 ≤ t.size := by omega
      clear hp hp' hr hx ht hr1 hseg hseg2 hsz2 hst hn
      by_cases hlt : n < r.length
      · rw [if_pos hlt] at HI
        have hne : ((n : Int) + 1 == 0) = false := by simp; omega
        clear hlt hsz
        gi_wp2_with (first | (refine ⟨trivial, ?_⟩; gi_at_call 57; refine (callsIn_wide.2 HP.out).mono ?_; rintro e w1 ⟨rfl, rfl⟩) | (refine ⟨trivial, ?_⟩; gi_at_call 58; refine (callsIn_wide.2 HI.out).mono ?_; rintro e w1 ⟨rfl, rfl⟩))
        refine hR.mono ?_
        rintro e W3 (⟨rfl, hJ3, hk3⟩ | ⟨rfl, hJx3⟩)
        · have hb3 := (hk3 Bs rfl).trans HB.out
          have hc3 := cell_of_one hb3
          have hf3 := free_of_one hb3
          have hset := one_setCell (u := .string (t.extract (n + 1) t.size)) hb3
          have hJ4 := hJ _ _ _ hJ3 (Turn.set Bs s0 0 W3 (.string (t.extract (n + 1) t.size)))
          have hs4 := strAt_one hset
          have HB4 := hid hset
          have HS4 := hid hs4
          clear hb3 hset hs4
          gi_wp2
          go_roundw
          case rel => exact ⟨_, _, HB4.out, HS, by have := HZ.out; simp; omega, hJ4⟩
          case measure => have h4 := HS4.out; have h5 := HZ.out; have h6 := HT.out; rw [h4, h6]; omega
        · gi_wp2
          refine bodyPost_ret (results_none rfl _ _ _) rfl ?_
          exact ⟨⟨_, rfl⟩, .inr ⟨_, ⟨_, HS.out⟩, hJx3⟩⟩
      · rw [if_neg hlt] at HI
        have hne : n + 1 = t.size := by omega
        have e0 : (t.extract t.size t.size) = ByteArray.empty := by simp
        rw [hne] at hy HS HZ hR
        rw [e0] at HS HZ
        clear hlt hsz hnr hne e0
        gi_wp2_with (first | (refine ⟨trivial, ?_⟩; gi_at_call 57; refine (callsIn_wide.2 HP.out).mono ?_; rintro e w1 ⟨rfl, rfl⟩) | (refine ⟨trivial, ?_⟩; gi_at_call 58; refine (callsIn_wide.2 HI.out).mono ?_; rintro e w1 ⟨rfl, rfl⟩))
        refine hR.mono ?_
        rintro e W3 (⟨rfl, hJ3, hk3⟩ | ⟨rfl, hJx3⟩)
        · have hb3 := (hk3 Bs rfl).trans HB.out
          have hc3 := cell_of_one hb3
          have hf3 := free_of_one hb3
          have hset := one_setCell (u := .string ByteArray.empty) hb3
          have hJ4 := hJ _ _ _ hJ3 (Turn.set Bs s0 0 W3 (.string ByteArray.empty))
          have hs4 := strAt_one hset
          have HB4 := hid hset
          have HS4 := hid hs4
          clear hb3 hset hs4
          gi_wp2
          go_roundw
          case rel => exact ⟨_, _, HB4.out, HS, by have := HZ.out; simp; omega, hJ4⟩
          case measure => have h4 := HS4.out; have h5 := HZ.out; have h6 := HT.out; rw [h4, h6]; omega
        · gi_wp2
          refine bodyPost_ret (results_none rfl _ _ _) rfl ?_
          exact ⟨⟨_, rfl⟩, .inr ⟨_, ⟨_, HS.out⟩, hJx3⟩⟩
end Go.Proofs.Ytbfhppafffhlkaa
