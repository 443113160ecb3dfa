/- The walks of package bits: texts. -/
import Derived.Test.YtbfhppafffhlkaaProg
import Derived.Test.YtbfhppafffhlkaaKit
import Derived.Laws.OwnMore
import Derived.Test.YtbfhppafffhlkaaPlain2
import Derived.Lib.BufferWrite
import Derived.Lib.SlBuf
import Derived.Laws.CopyOwn
namespace Go.Proofs.Ytbfhppafffhlkaa
open Go.RowKit
open Go.Proofs
set_option linter.unusedVariables false

def textV (l : List UInt8) : Value :=
  if 8 < l.length then .tuple #[.int .u64 0, .int .i64 111] else if l.contains 0 then .tuple #[.int .u64 0, .int .i64 2] else .tuple #[.int .u64 ((Pl.textN l : Nat) : Int), .int .i64 0]
/-- Byte j as a cell. -/
def bcell (l : List UInt8) (j : Nat) : Value := .int .u8 ((Pl.bt l j : Nat) : Int)

set_option maxRecDepth 100000 in
theorem Text_any (s : ByteArray) (w : World) (hs : s.size ≤ 1000) : Calls Try.prog 51 #[.string s] w (Ret (textV s.data.toList) w) := by
  by_cases h8 : 8 < s.size
  · have e : textV s.data.toList = .tuple #[.int .u64 0, .int .i64 111] := by unfold textV; rw [if_pos (by rw [← Lib.size_eq]; exact h8)]
    rw [e]
    clear e
    go_enter Try.func51, Try.ntmps51
    go_wp2
    go_ret2
    exact ⟨rfl, Below.refl _ _⟩
  · obtain ⟨l, el⟩ : ∃ l, l = s.data.toList := ⟨_, rfl⟩
    have hsz : s.size = l.length := by rw [el]; exact Lib.size_eq s
    rw [← el]
    obtain ⟨w1, hw1, hb1, hs1, hcc⟩ := boxed w #[.int .u8 0, .int .u8 0, .int .u8 0, .int .u8 0, .int .u8 0, .int .u8 0, .int .u8 0, .int .u8 0] 99
    have hg : w1.heap[w.heap.size]? = some (.cells #[.int .u8 0, .int .u8 0, .int .u8 0, .int .u8 0, .int .u8 0, .int .u8 0, .int .u8 0, .int .u8 0] 99 (0, 0)) := by rw [← hw1]; exact heap_alloc_new _ _
    have hrun := Lib.run_copy_row_string (P := Try.prog) w1 83 9 3 5 w.heap.size 0 8 8 s _ _ Try.underlying83 (by kernel_rfl) hg (by omega) (by simp; omega)
    rw [← el] at hrun
    have hrow : ∀ j, j < 8 → ((List.take 0 [.int .u8 0, .int .u8 0, .int .u8 0, .int .u8 0, .int .u8 0, .int .u8 0, .int .u8 0, .int .u8 0] ++ Lib.byteCells l ++ List.drop (0 + s.size) [Value.int .u8 0, .int .u8 0, .int .u8 0, .int .u8 0, .int .u8 0, .int .u8 0, .int .u8 0, .int .u8 0] : List Value))[j]? = some (bcell l j) := by
      intro j hj
      have hlen : (Lib.byteCells l).length = l.length := Lib.byteCells_length l
      simp only [List.take_zero, List.nil_append, Nat.zero_add]
      by_cases hjl : j < l.length
      · rw [List.getElem?_append_left (by omega)]
        unfold Lib.byteCells bcell Pl.bt
        rw [List.getElem?_map, List.getD_eq_getElem?_getD, List.getElem?_eq_getElem hjl]; rfl
      · rw [List.getElem?_append_right (by omega), hlen, List.getElem?_drop, hsz]
        unfold bcell
        rw [Pl.bt_end l j (by omega), show l.length + (j - l.length) = j by omega]
        match j, hj with
        | 0, _ | 1, _ | 2, _ | 3, _ | 4, _ | 5, _ | 6, _ | 7, _ => rfl
    obtain ⟨w2, hw2⟩ : ∃ w2, w1.setRow w.heap.size (List.toArray (List.take 0 [.int .u8 0, .int .u8 0, .int .u8 0, .int .u8 0, .int .u8 0, .int .u8 0, .int .u8 0, .int .u8 0] ++ Lib.byteCells l ++ List.drop (0 + s.size) [Value.int .u8 0, .int .u8 0, .int .u8 0, .int .u8 0, .int .u8 0, .int .u8 0, .int .u8 0, .int .u8 0])) = w2 := ⟨_, rfl⟩
    have hb2 : Below w.heap.size w w2 := by
      rw [← hw2]
      exact below_setRow hb1 (Nat.le_refl _) _
    have hcell : ∀ j, j < 8 → w2.cell? ⟨w.heap.size, j, none⟩ = some (bcell l j) := by
      intro j hj
      rw [← hw2]
      exact (cell_of_row _ _ _ _ _ _ (setRow_heap w1 w.heap.size _ _ _ _ hg)).trans (by rw [List.getElem?_toArray]; exact hrow j hj)
    rw [show (#[Value.int .u8 0, .int .u8 0, .int .u8 0, .int .u8 0, .int .u8 0, .int .u8 0, .int .u8 0, .int .u8 0] : Array Value).toList = [.int .u8 0, .int .u8 0, .int .u8 0, .int .u8 0, .int .u8 0, .int .u8 0, .int .u8 0, .int .u8 0] from rfl, hw2] at hrun
    have c0 := hcell 0 (by decide); have c1 := hcell 1 (by decide); have c2 := hcell 2 (by decide); have c3 := hcell 3 (by decide)
    have c4 := hcell 4 (by decide); have c5 := hcell 5 (by decide); have c6 := hcell 6 (by decide); have c7 := hcell 7 (by decide)
    clear hcell hrow hg hcc hw2 el hb1 hs1
    have hI : (∀ k : Nat, k < 8 → ∀ w, (Instr.index 99 (.agg #[bcell l 0, bcell l 1, bcell l 2, bcell l 3, bcell l 4, bcell l 5, bcell l 6, bcell l 7]) (.int .i64 (k : Int))).run Try.prog w = .ok (.int .u8 ((Pl.bt l k : Nat) : Int)) w) := by
      intro k hk w
      rcases (by omega : k = 0 ∨ k = 1 ∨ k = 2 ∨ k = 3 ∨ k = 4 ∨ k = 5 ∨ k = 6 ∨ k = 7) with rfl | rfl | rfl | rfl | rfl | rfl | rfl | rfl <;> rfl
    have HI := hid hI
    have HSZ := hid hsz
    clear hI hsz
    go_enter Try.func51, Try.ntmps51
    go_wp2_with ((with_reducible show wpList _ _ _ _ _ _); refine Lib.wpList_copy_run _ rfl (.tmp 11) (.tmp 12) 83 9 rfl (.slice (some ⟨w.heap.size, 0, none⟩) 8 8) (.string s) rfl rfl hrun ?_)
    go_loopg [5, 15] 8 (fun g x i wr => ∃ k : Nat, g + k = 8 ∧ i = .int .i64 (k : Nat) ∧ x = .int .u64 ((Pl.textN (l.take k) : Nat) : Int) ∧ Hid (∀ j, j < k → j < l.length → Pl.bt l j ≠ 0) ∧ w2 = wr)
    case atStart => exact ⟨0, rfl, rfl, rfl, fun j hj => absurd hj (Nat.not_lt_zero j), rfl⟩
    case round =>
      obtain ⟨k, hk, rfl, rfl, hnz, rfl⟩ := hrel
      by_cases hlt : k < 8
      · obtain ⟨c, hc⟩ : ∃ c, Pl.bt l k = c := ⟨_, rfl⟩
        have hi := HI.out k hlt
        rw [hc] at hi
        have hcl : c < 256 := by rw [← hc]; exact Pl.bt_lt l k
        have HC := hid hc
        have HK := hid hk
        clear hc hk
        by_cases hz : (((c : Nat) : Int) == 0) = true ∧ k < s.size
        · obtain ⟨hz1, hz2⟩ := hz
          go_wp2
          go_ret2
          refine ⟨?_, hb2⟩
          have : l.contains 0 = true := by
            cases h : l.contains 0 with
            | true => rfl
            | false => exact absurd (by rw [HC.out]; simpa using hz1) ((Pl.no_zero_iff l).1 h k (by rw [← HSZ.out]; exact hz2))
          unfold textV
          rw [if_neg (by rw [← HSZ.out]; exact h8), if_pos this]
          rfl
        · have E : Hid (bits BinOp.or IntKind.u64 ((Pl.textN (l.take k) : Nat) : Int) (IntKind.u64.wrap ((c : Int) * 2 ^ (8 * k))) = ((Pl.textN (l.take (k + 1)) : Nat) : Int)) := by
            refine hid ?_
            have h1 : c * 256 ^ k < 18446744073709551616 := by
              have h2 : c * 256 ^ k < 256 * 256 ^ k := Nat.mul_lt_mul_of_pos_right hcl (Nat.pow_pos (by decide))
              have h3 : 256 * 256 ^ k ≤ 256 ^ 8 := by rw [Nat.mul_comm, ← Nat.pow_succ]; exact Nat.pow_le_pow_right (by decide) (by omega)
              omega
            have h4 := Pl.textN_take_lt l k
            have h5 : 256 ^ k ≤ 256 ^ 8 := Nat.pow_le_pow_right (by decide) (by omega)
            have e1 : (c : Int) * 2 ^ (8 * k) = ((c * 256 ^ k : Nat) : Int) := by rw [Pl.pow256, Int.natCast_mul, Int.natCast_pow]; rfl
            rw [e1, u64_wrap (by omega) (by omega), u64_or_nat _ _ (by omega) h1, Pl.or_add _ _ _ h4, Pl.textN_take, HC.out]
          cases hz1 : (((c : Nat) : Int) == 0) with
          | false =>
            go_wp2
            go_roundg (gk - 1)
            case measure => have := HK.out; omega
            case rel => exact ⟨k + 1, by have := HK.out; omega, by go_num, by rw [← E.out], hid (fun j hj hjl => by
              by_cases e : j = k
              · subst e; rw [HC.out]; simpa using hz1
              · exact hnz.out j (by omega) hjl), rfl⟩
          | true =>
            have hz2 : s.size ≤ k := by
              by_cases h : k < s.size
              · exact absurd ⟨hz1, h⟩ hz
              · omega
            go_wp2
            go_roundg (gk - 1)
            case measure => have := HK.out; omega
            case rel => exact ⟨k + 1, by have := HK.out; omega, by go_num, by rw [← E.out], hid (fun j hj hjl => hnz.out j (by have := HSZ.out; omega) hjl), rfl⟩
      · have e : k = 8 := by omega
        subst e
        have e : textV l = .tuple #[.int .u64 ((Pl.textN (l.take 8) : Nat) : Int), .int .i64 0] := by
          have hl8 : l.length ≤ 8 := by have := HSZ.out; omega
          have : l.contains 0 = false := (Pl.no_zero_iff l).2 fun j hj => hnz.out j (by omega) hj
          unfold textV
          rw [if_neg (by omega), this, List.take_of_length_le hl8]; rfl
        have E := hid e
        clear e hnz hk hlt
        go_wp2
        go_ret2
        exact ⟨by rw [E.out]; rfl, hb2⟩
/-- '[]byte' as the call's own. -/
theorem elemBytes : Elem Try.prog 83 5 1 1 := Elem.mk' (z := .int .u8 0) Try.underlying83 (by kernel_rfl) rfl (by decide) (by decide)

/-- A word's bytes up to the first one that is 0. -/
def backGo : Nat → Nat → List UInt8
  | 0, _ => []
  | f + 1, x => if x % 256 = 0 then [] else UInt8.ofNat (x % 256) :: backGo f (x / 256)
def backL (x : Nat) : List UInt8 := backGo 8 x
def backV (x : Nat) : Value := if Pl.textN (backL x) = x then .tuple #[.string ⟨(backL x).toArray⟩, .int .i64 0] else .tuple #[.string ⟨#[]⟩, .int .i64 2]
theorem backGo_len : ∀ f x, (backGo f x).length ≤ f
  | 0, _ => by simp [backGo]
  | f + 1, x => by
    unfold backGo
    split
    · simp
    · have := backGo_len f (x / 256); simp; omega
theorem backGo_zero : ∀ f x, (backGo f x).contains 0 = false
  | 0, _ => by simp [backGo]
  | f + 1, x => by
    unfold backGo
    split
    · simp
    · rename_i h
      have := backGo_zero f (x / 256)
      rw [List.contains_cons, this, Bool.or_false, beq_eq_false_iff_ne]
      intro e
      have := congrArg UInt8.toNat e
      simp at this
      omega

theorem conv_bytes (w : World) (a : Option Addr) (cap : Nat) (l : List UInt8) (h : Leads w a l.length cap (Lib.byteCells l)) :
    (convert 83 9 (.slice a l.length cap)).run Try.prog w = .ok (.string ⟨l.toArray⟩) w := by
  obtain ⟨_, _, ⟨h1, _⟩ | ⟨b, off, rfl, _, h4⟩⟩ := h
  · obtain rfl := List.eq_nil_of_length_eq_zero h1
    cases a with
    | some a => exact run_convert_bytes_back w 83 9 5 a cap [] Try.underlying83 Try.underlying5 Try.underlying9 (fun j hj => absurd hj (Nat.not_lt_zero j))
    | none =>
    rw [run_convert_bytes_nil w 83 5 Try.underlying83 Try.underlying5 _ _ 9 Try.underlying9]; rfl
  · refine run_convert_bytes_back w 83 9 5 _ cap l Try.underlying83 Try.underlying5 Try.underlying9 ?_
    intro j hj
    have := h4 j _ (by unfold Lib.byteCells; rw [List.getElem?_map, List.getElem?_eq_getElem hj]; rfl)
    rcases j with _ | j
    · simpa [Addr.add] using this
    · simpa [Addr.add] using this

theorem Back_any (x : Nat) (w : World) (hx : x < 18446744073709551616) : Calls Try.prog 48 #[.int .u64 (x : Nat)] w (Ret (backV x) w) := by
  go_enter Try.func48, Try.ntmps48
  go_wp2
  go_loopg [4, 5] 8 (fun g v n wr => ∃ (k y : Nat) (L : List UInt8), g + k = 8 ∧ y < 256 ^ g ∧ n = .int .u64 (y : Nat) ∧ Hid (backL x = L ++ backGo g y) ∧ L.length = k ∧ wr.ownsRow w.heap.size 5 1 v k (Lib.byteCells L) ∧ Below w.heap.size w wr)
  case atStart => exact ⟨0, x, [], rfl, by omega, rfl, rfl, rfl, World.ownsRow_nil _ _ _ _, Below.refl _ _⟩
  case round =>
    obtain ⟨k, y, L, hk, hy, rfl, hb, hL, hown, hw⟩ := hrel
    have hk8 : 256 ^ gk ≤ 256 ^ 8 := Nat.pow_le_pow_right (by decide) (by omega)
    have hy2 : y < 18446744073709551616 := by omega
    have e255 : bits BinOp.and IntKind.u64 ((y : Nat) : Int) 255 = ((y % 256 : Nat) : Int) := by
      have := u64_and_nat y 255 hy2 (by decide)
      rw [Pl.mask8] at this
      exact this
    by_cases hz : y % 256 = 0
    · obtain ⟨a, cap, rfl, hld⟩ := Leads.of_own hown
      have hbl : backL x = L := by
        rw [hb.out]
        cases gk with
        | zero => simp [backGo]
        | succ g => unfold backGo; rw [if_pos hz]; simp
      have hkl : k = L.length := hL.symm
      have hconv := conv_bytes wr a cap L (by rw [← hkl]; exact hld)
      rw [← hkl] at hconv
      have HB := hid hbl
      have HK := hid hk
      have HL := hid hL
      clear hbl hb hL hkl hld hown hy hk8 hk
      rw [hz] at e255
      have ht : textV (⟨L.toArray⟩ : ByteArray).data.toList = .tuple #[.int .u64 ((Pl.textN L : Nat) : Int), .int .i64 0] := by
        show textV L = _
        have h0 : L.contains 0 = false := by rw [← HB.out]; exact backGo_zero 8 x
        unfold textV
        rw [if_neg (by have := HL.out; have := HK.out; omega), h0]; rfl
      have HT := hid ht
      clear ht
      go_wp2_with fail
      refine (Text_any ⟨L.toArray⟩ _ (by rw [Lib.size_eq]; have := HL.out; have := HK.out; simp; omega)).mono ?_
      rw [HT.out]
      rintro e w2 ⟨rfl, hb2⟩
      cases hq : (((Pl.textN L : Nat) : Int) != ((x : Nat) : Int)) with
      | true =>
        have E : Hid (backV x = .tuple #[.string ⟨#[]⟩, .int .i64 2]) := by
          refine hid ?_
          unfold backV
          rw [HB.out, if_neg (by intro h; rw [h] at hq; simp at hq)]
        go_wp2
        go_ret2
        exact ⟨by rw [E.out]; rfl, step hw hb2⟩
      | false =>
        have E : Hid (backV x = .tuple #[.string ⟨L.toArray⟩, .int .i64 0]) := by
          refine hid ?_
          unfold backV
          rw [HB.out, if_pos (by simp at hq; omega)]
        go_wp2
        go_ret2
        exact ⟨by rw [E.out]; rfl, step hw hb2⟩
    · cases gk with
      | zero => omega
      | succ g =>
        obtain ⟨d, hd⟩ : ∃ d, y % 256 = d := ⟨_, rfl⟩
        obtain ⟨q, hq⟩ : ∃ q, y / 256 = q := ⟨_, rfl⟩
        rw [hd] at e255
        have hz2 : (((d : Nat) : Int) != 0) = true := by simp; omega
        have hb' : backL x = (L ++ [UInt8.ofNat d]) ++ backGo g q := by
          rw [hb.out, List.append_assoc]
          conv => lhs; unfold backGo
          rw [if_neg hz, hd, hq]; rfl
        have HB := hid hb'
        have hy' : q < 256 ^ g := by rw [Nat.pow_succ] at hy; omega
        have HY := hid hy'
        have hc : IntKind.u8.wrap ((y : Nat) : Int) = ((d : Nat) : Int) := by rw [IntKind.wrap_u8]; omega
        have hdv : ((y : Nat) : Int) / 256 = ((q : Nat) : Int) := by omega
        have hs := hw.size
        have HK := hid hk
        have HL := hid hL
        have HW := hid hown
        have hcell : Lib.byteCells L ++ [.int .u8 ((d : Nat) : Int)] = Lib.byteCells (L ++ [UInt8.ofNat d]) := by
          unfold Lib.byteCells
          rw [List.map_append]
          have : (UInt8.ofNat d).toNat = d := by simp; omega
          simp [this]
        have HE := hid hcell
        clear hb hb' hy' hk hL hown hy hk8 hz hd hq hcell
        obtain ⟨w3, hw3, hb3, hs3, hc3⟩ := boxed wr #[.int .u8 ((d : Nat) : Int)] 5
        have HC := hid hc3
        have hs4 : w.heap.size ≤ w3.heap.size := by omega
        clear hc3 hs3
        go_wp2_with ((with_reducible show wpList _ _ _ _ _ _); refine wp_append1 elemBytes rfl (.tmp 15) (.tmp 18) rfl w.heap.size u4 k _ rfl (own_grow HW.out hb3) wr.heap.size [.int .u8 ((d : Nat) : Int)] rfl rfl ?c1 ?c2 ?c3 ?c4 ?c5)
        case c1 => 
          intro j u hj
          exact HC.out _ j u (Below.refl _ _) (by simpa using hj)
        case c2 => intro u hu; simp at hu; subst hu; rfl
        case c3 => have := HK.out; omega
        case c4 => exact hs4
        case c5 =>
          intro v' w4 hown' hb4 hs5
          rw [HE.out] at hown'
          have HW' := hid hown'
          clear hown'
          go_wp2
          go_roundg g
          case measure => omega
          case rel => exact ⟨k + 1, q, _, by have := HK.out; omega, HY.out, rfl, HB, by have := HL.out; simp; omega, HW'.out, (hw.trans (hb3.mono hs)).trans hb4⟩
end Go.Proofs.Ytbfhppafffhlkaa
