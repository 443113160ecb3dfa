/- The functions of package path: Up. -/
import Derived.Test.YtbfhppafffhlkaaPath6
namespace Go.Proofs.Ytbfhppafffhlkaa
open Go.RowKit Go.Shelf
open Go.Proofs
set_option linter.unusedVariables false

/-- The ways up. -/
def ups (ps : List (List UInt8)) : List Nat := (List.range (ps.length + 1)).map fun k => numL (ps.take (ps.length - k))
def upsTo (ps : List (List UInt8)) (k : Nat) : List Nat := (List.range k).map fun k => numL (ps.take (ps.length - k))
theorem upsTo_succ (ps : List (List UInt8)) (k : Nat) : upsTo ps (k + 1) = upsTo ps k ++ [numL (ps.take (ps.length - k))] := by unfold upsTo; rw [List.range_succ]; simp
theorem upsTo_len (ps : List (List UInt8)) (k : Nat) : (upsTo ps k).length = k := by unfold upsTo; simp
theorem tot_take (ps : List (List UInt8)) (k : Nat) : Pth.tot (ps.take k) ≤ Pth.tot ps := by
  have := Pth.tot_append (ps.take k) (ps.drop k)
  rw [List.take_append_drop] at this; omega
theorem Leads.front {w : World} {a : Option Addr} {n cap m : Nat} {xs : List ByteArray} (h : Leads w a n cap (tcells xs)) (hx : xs.length = n) (hm : m ≤ n) : Leads w a m m (tcells (xs.take m)) := by
  obtain ⟨h1, h2, ⟨h, h'⟩ | ⟨b, off, rfl, h3, h4⟩⟩ := h
  · exact ⟨Nat.le_refl _, by omega, .inl ⟨by omega, by rw [show xs = [] from List.eq_nil_of_length_eq_zero (by omega)]; simp [tcells]⟩⟩
  · refine ⟨Nat.le_refl _, by omega, .inr ⟨b, off, rfl, h3, fun i v hv => h4 i v ?_⟩⟩
    unfold tcells at *
    rw [List.map_take, List.getElem?_take] at hv
    split at hv
    · exact hv
    · cases hv

/-- Rows of words that are the call's own. -/
structure Words (ls : List Nat) (c : Value → Value) (w : World) (e : Ending) (w' : World) (v : Value) : Prop where
  e : e = .returned (c v)
  o : w'.ownsRow w.heap.size 23 1 v ls.length (wcells ls)
  b : Below w.heap.size w w'

theorem Up_none (x : Nat) (w : World) (hx : x < 18446744073709551616) (h : rd x = none) : Calls Try.prog 18 #[.int .u64 (x : Nat)] w (Ret (.tuple #[.slice none 0 0, .int .i64 310]) w) := by
  have HR := hid fun W => read_none x W hx h
  clear h
  go_enter Try.func18, Try.ntmps18
  go_wp2_with (go_at_call 39; refine (HR.out _).mono ?_; unfold noPath; rintro e w1 ⟨rfl, hb1⟩)
  go_ret2
  exact ⟨rfl, hb1.alloc hb1.size _⟩

set_option maxHeartbeats 1000000 in
theorem Up_some (x : Nat) (ps : List (List UInt8)) (w : World) (hx : x < 18446744073709551616) (h : rd x = some ps) : Calls Try.prog 18 #[.int .u64 (x : Nat)] w (fun e w' => ∃ v, Words (ups ps) (fun v => .tuple #[v, .int .i64 0]) w e w' v) := by
  have HR := hid fun W => read_some x ps W hx h
  obtain ⟨-, -, -, -, -, htot, hlen⟩ := rd_some h
  clear h
  go_enter Try.func18, Try.ntmps18
  go_wp2_with fail
  refine (HR.out _).mono ?_
  rintro e w1 ⟨v, xs, rfl, hd, ho, hb1⟩
  obtain ⟨n, hn⟩ : ∃ n, xs.length = n := ⟨_, rfl⟩
  have hpn : ps.length = n := by rw [← hd]; unfold dl; rw [List.length_map]; exact hn
  rw [hn] at ho
  obtain ⟨a, c, rfl, hld⟩ := Leads.of_own ho
  have hn4 : n ≤ 4 := by omega
  have hnc := hld.1
  have hcm := hld.len.2
  obtain ⟨w2, hw2, hb2, hs2, hl2⟩ := laid w1 #[.slice a n c, .int .u64 (x : Nat)] 77
  have hc0 := cell_laid (i := 0) (v := .slice a n c) hl2 rfl
  have HL := hid (hld.grow hb2)
  have HL2 := hid hl2
  have HD := hid hd
  have HN := hid hn
  have HP := hid hpn
  have hb12 := step hb1 hb2
  have htk := fun k => Nat.le_trans (Pth.join_tot (ps.take k)) (Nat.le_trans (tot_take ps k) htot)
  have HT := hid htk
  have hs1 := lt_laid hl2
  clear hd ho hn hld hl2 hs2 hpn htk htot hlen
  go_wp2
  go_loopg [6, 7, 8, 9] (n + 1) (fun g v i _ _ wr => ∃ k : Nat, g + k = n + 1 ∧ i = .int .i64 ((n : Int) - (k : Nat)) ∧ wr.ownsRow w2.heap.size 23 1 v k (wcells (upsTo ps k)) ∧ Below w2.heap.size w2 wr)
  case atStart => exact ⟨0, rfl, by simp, World.ownsRow_nil _ _ _ _, Below.refl _ _⟩
  case round =>
    obtain ⟨k, hk, rfl, hown, hb⟩ := hrel
    have HK := hid hk
    have hbs := hb.size
    by_cases hlt : k ≤ n
    · obtain ⟨m, hm⟩ : ∃ m : Nat, (n : Int) - (k : Nat) = (m : Nat) := ⟨n - k, by omega⟩
      have hmn : m ≤ n := by omega
      have hmc : m ≤ c := by omega
      rw [hm]
      have hpk : ps.length - k = m := by rw [HP.out]; omega
      have hcr := (hb.cell (p := ⟨w1.heap.size, 0, none⟩) hs1).trans hc0
      have hdt : dl (xs.take m) = ps.take m := by rw [← HD.out]; unfold dl; rw [List.map_take]
      have hxm : (xs.take m).length = m := by rw [List.length_take, HN.out]; omega
      have hW := word_any (xs.take m) a m m wr hxm ((HL.out.grow hb).front HN.out hmn) (by omega) (by rw [hdt]; have := HT.out m; omega)
      rw [hdt] at hW
      unfold wordV at hW
      have hup := upsTo_succ ps k
      rw [hpk] at hup
      obtain ⟨N, hN⟩ : ∃ N, numL (ps.take m) = N := ⟨_, rfl⟩
      obtain ⟨q, hq⟩ : ∃ q, okL (ps.take m) = q := ⟨_, rfl⟩
      rw [hN] at hW hup
      rw [hq] at hW
      have HW := hid hW
      have HU : Hid (wcells (upsTo ps k) ++ [.int .u64 ((N : Nat) : Int)] = wcells (upsTo ps (k + 1))) := hid (by rw [hup]; unfold wcells; simp)
      have HM := hid hm
      have HO := hid hown
      clear hW hup hpk hdt hxm hN hq hm hown hk
      go_wp2_with fail
      refine HW.out.mono ?_
      rintro e w3 ⟨rfl, hb3⟩
      obtain ⟨w4, hw4, hb4, hs4, hl4⟩ := laid w3 #[.int .u64 ((N : Nat) : Int)] 23
      have HL4 := hid hl4
      have hb34 := step hb3 hb4
      have h34 := hb34.size
      have hb12s := hb12.size
      have hs5 : w2.heap.size ≤ w4.heap.size := by omega
      clear hl4 hs4
      go_wp2_with ((with_reducible show wpList _ _ _ _ _ _); refine wp_append1 elemWords rfl (.tmp 33) (.tmp 35) rfl w2.heap.size u6 k _ rfl (own_grow HO.out hb34) w3.heap.size [.int .u64 ((N : Nat) : Int)] rfl rfl ?c1 ?c2 ?c3 ?c4 ?c5)
      case c1 =>
        intro j u hj
        exact cell_laid HL4.out (by simpa using hj)
      case c2 => intro u hu; simp at hu; subst hu; rfl
      case c3 => omega
      case c4 => exact hs5
      case c5 =>
        intro v' w5 hown' hb5 hs6
        rw [HU.out] at hown'
        have HO' := hid hown'
        clear hown'
        go_wp2
        go_roundg (gk - 1)
        case measure => have := HK.out; omega
        case rel => exact ⟨k + 1, by have := HK.out; omega, by have := HM.out; go_num, HO'.out, (step hb hb34).trans hb5⟩
    · obtain rfl : k = n + 1 := by have := HK.out; omega
      have hm : (n : Int) - ((n + 1 : Nat) : Int) = -1 := by omega
      rw [hm]
      have HU : Hid (upsTo ps (n + 1) = ups ps) := hid (by unfold upsTo ups; rw [HP.out])
      have HO := hid hown
      clear hown hm hk
      go_wp2
      refine bodyPost_ret (results_tmp2 rfl _ _ _) rfl ?_
      refine ⟨_, rfl, ?_, step hb12 hb⟩
      have := HO.out
      rw [HU.out] at this
      rw [← HU.out, upsTo_len, HU.out]
      exact own_base this hb12.size
end Go.Proofs.Ytbfhppafffhlkaa
