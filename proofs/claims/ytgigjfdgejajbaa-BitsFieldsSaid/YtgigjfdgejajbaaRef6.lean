/- The walk of the document's answer for layer 1: fields that lie apart. -/
import Derived.Test.YtgigjfdgejajbaaRef5
namespace Go.Proofs.Ytgigjfdgejajbaa
open Go.RowKit
open Go.Proofs
set_option linter.unusedVariables false

/-- Two fields lie apart. -/
def ap (f g : FieldI) : Bool := decide (g.1 + g.2 ≤ f.1 ∨ f.1 + f.2 ≤ g.1)
/-- Fields that lie apart, and apart from those that were before. -/
def apGo (done : List FieldI) : List FieldI → Bool
  | [] => true
  | f :: r => isF f.1 f.2 && done.all (ap f) && apGo (done ++ [f]) r
theorem take_snoc {α : Type} (l : List α) (k : Nat) (x : α) (h : l[k]? = some x) : l.take (k + 1) = l.take k ++ [x] := by
  rw [List.take_add_one, h]; rfl
theorem apGo_at (fs : List FieldI) (k : Nat) (f : FieldI) (h : fs[k]? = some f) : apGo (fs.take k) (fs.drop k) = (isF f.1 f.2 && (fs.take k).all (ap f) && apGo (fs.take (k + 1)) (fs.drop (k + 1))) := by
  rw [drop_at fs k f h, take_snoc fs k f h]; rfl
theorem all_no (fs : List FieldI) (f g : FieldI) (k j : Nat) (hj : j < k) (h : fs[j]? = some g) (hno : ap f g = false) : (fs.take k).all (ap f) = false := by
  rw [List.all_eq_false]
  exact ⟨g, List.mem_of_getElem? (i := j) (by rw [List.getElem?_take, if_pos hj, h]), by simp [hno]⟩
theorem isF_in {a c : Int} (h : isF a c = true) : 0 ≤ a ∧ 1 ≤ c ∧ a ≤ 64 ∧ c ≤ 64 ∧ a + c ≤ 64 := by simpa [isF] using h

set_option maxHeartbeats 1000000 in
theorem rApart_any (fs : List FieldI) (a : Option Addr) (cap : Nat) (w : World) (hl : Leads w a fs.length cap (fcells fs)) (hf : fok fs) :
    Calls Try.prog 31 #[.slice a fs.length cap] w (Ret (.bool (apGo [] fs)) w) := by
  obtain ⟨n, en⟩ : ∃ n, n = fs.length := ⟨_, rfl⟩
  rw [← en] at hl ⊢
  have En := hid en
  have H := hid hl
  have HFO := hid hf
  have hn := hl.len
  obtain ⟨hn1, hn2⟩ := hn
  have hnc := hl.1
  clear en hl hf
  go_enter Try.func31, Try.ntmps31
  go_wp2
  go_loopg [9] n (fun g i wr => ∃ k : Nat, g + k = n ∧ i = .int .i64 (k : Nat) ∧ Hid (apGo [] fs = apGo (fs.take k) (fs.drop k)) ∧ Hid (∀ g ∈ fs.take k, isF g.1 g.2 = true) ∧ Below w.heap.size w wr)
  case atStart => exact ⟨0, rfl, rfl, rfl, hid (by simp), Below.refl _ _⟩
  case round =>
    obtain ⟨k, hk, rfl, hap, hisf, hb⟩ := hrel
    obtain ⟨G, hG⟩ : ∃ G, G = gk - 1 := ⟨_, rfl⟩
    have HK := hid (And.intro hk hG)
    clear hk hG
    by_cases hlt : k < n
    · obtain ⟨_, _, ⟨h, _⟩ | ⟨b, off, rfl, h3, h4⟩⟩ := H.out
      · omega
      obtain ⟨⟨fa, fc⟩, hfk⟩ : ∃ f, fs[k]? = some f := ⟨_, List.getElem?_eq_getElem (by rw [← En.out]; exact hlt)⟩
      have hfb := HFO.out _ (List.mem_of_getElem? hfk)
      obtain ⟨hf1, hf2, hf3, hf4⟩ := hfb
      dsimp only at hf1 hf2 hf3 hf4
      have hc0 : wr.cell? ⟨b, off + k * 2, none⟩ = some (.int .i64 fa) := (hb.cell (by exact h3)).trans (h4 (k * 2) _ (flat_at _ 2 (fun _ => rfl) fs k 0 _ hfk (by omega)))
      have hc1 : wr.cell? ⟨b, off + k * 2 + 1, none⟩ = some (.int .i64 fc) := (hb.cell (by exact h3)).trans (h4 (k * 2 + 1) _ (flat_at _ 2 (fun _ => rfl) fs k 1 _ hfk (by omega)))
      have hat := apGo_at fs k _ hfk
      dsimp only at hat
      have HF := hid hfk
      have H4 := hid h4
      obtain ⟨wb, hwb, hbb, hsb, hcb⟩ := boxed wr #[Value.int IntKind.i64 fa, Value.int IntKind.i64 fc] 53
      have hy : Below w.heap.size w wb := step hb hbb
      have hx0 := hcb wb 0 _ (Below.refl _ _) rfl
      have hx1 := hcb wb 1 _ (Below.refl _ _) rfl
      have HC := hid hcb
      have HAT := hid hat
      clear hcb hfk h4 hat
      cases hif : isF fa fc with
      | false =>
        go_wp2_with fail
        refine (rField_any _ _ _ hf1 hf2 hf3 hf4).mono ?_
        rw [hif]
        rintro e w1 ⟨rfl, hb1⟩
        go_wp2
        go_ret
        exact ⟨by rw [hap.out, HAT.out, hif]; rfl, step hy hb1⟩
      | true =>
        obtain ⟨i1, i2, i3, i4, i5⟩ := isF_in hif
        have HIF := hid hif
        have hkc : k ≤ cap := by omega
        go_wp2_with fail
        refine (rField_any _ _ _ hf1 hf2 hf3 hf4).mono ?_
        rw [hif]
        clear hif
        rintro e w1 ⟨rfl, hb1⟩
        have hy1 := step hy hb1
        go_wp2
        go_loopg [21] k (fun g i wr => ∃ j : Nat, g + j = k ∧ i = .int .i64 (j : Nat) ∧ Hid ((fs.take j).all (ap (fa, fc)) = true) ∧ Below wb.heap.size wb wr)
        case atStart => exact ⟨0, rfl, rfl, hid (by simp), hb1⟩
        case round =>
          obtain ⟨j, hj, rfl, hall, hb2⟩ := hrel
          have HJ := hid hj
          clear hj
          by_cases hlj : j < k
          · obtain ⟨⟨ga, gc⟩, hgj⟩ : ∃ f, fs[j]? = some f := ⟨_, List.getElem?_eq_getElem (by rw [← En.out]; omega)⟩
            have hig := hisf.out (ga, gc) (List.mem_of_getElem? (i := j) (by rw [List.getElem?_take, if_pos hlj, hgj]))
            obtain ⟨k1, k2, k3, k4, k5⟩ := isF_in hig
            dsimp only at k1 k2 k3 k4 k5
            have hb3 := step hy hb2
            have hd0 := HC.out wr 0 _ hb2 rfl
            have hd1 := HC.out wr 1 _ hb2 rfl
            have hg0 : wr.cell? ⟨b, off + j * 2, none⟩ = some (.int .i64 ga) := (hb3.cell (by exact h3)).trans (H4.out (j * 2) _ (flat_at _ 2 (fun _ => rfl) fs j 0 _ hgj (by omega)))
            have hg1 : wr.cell? ⟨b, off + j * 2 + 1, none⟩ = some (.int .i64 gc) := (hb3.cell (by exact h3)).trans (H4.out (j * 2 + 1) _ (flat_at _ 2 (fun _ => rfl) fs j 1 _ hgj (by omega)))
            obtain ⟨wg, hwg, hbg, hsg, hcg⟩ := boxed wr #[Value.int IntKind.i64 ga, Value.int IntKind.i64 gc] 53
            have hz0 := hcg wg 0 _ (Below.refl _ _) rfl
            have hz1 := hcg wg 1 _ (Below.refl _ _) rfl
            have he0 := HC.out wg 0 _ (step hb2 hbg) rfl
            have he1 := HC.out wg 1 _ (step hb2 hbg) rfl
            have hb4 := step hb2 hbg
            have hb5 := step hb3 hbg
            have HGJ := hid hgj
            clear hcg hgj hig
            by_cases h1 : fa < ga + gc
            · by_cases h2 : ga < fa + fc
              · have hno : ap (fa, fc) (ga, gc) = false := by unfold ap; exact decide_eq_false (by dsimp only; omega)
                have e2 : apGo [] fs = false := by rw [hap.out, HAT.out, all_no fs _ _ k j hlj HGJ.out hno]; simp
                have E := hid e2
                clear e2 hno
                go_wp2
                go_ret
                exact ⟨by rw [E.out]; rfl, hb5⟩
              · have hyes : ap (fa, fc) (ga, gc) = true := by unfold ap; exact decide_eq_true (by dsimp only; omega)
                have hall2 : (fs.take (j + 1)).all (ap (fa, fc)) = true := by rw [take_snoc fs j _ HGJ.out, List.all_append, hall.out]; simp [hyes]
                have HA := hid hall2
                clear hall2 hyes
                go_wp2
                go_roundg (gk - 1)
                case measure => have := HJ.out; omega
                case rel => exact ⟨j + 1, by have := HJ.out; omega, by go_num, HA, hb4⟩
            · have hyes : ap (fa, fc) (ga, gc) = true := by unfold ap; exact decide_eq_true (by dsimp only; omega)
              have hall2 : (fs.take (j + 1)).all (ap (fa, fc)) = true := by rw [take_snoc fs j _ HGJ.out, List.all_append, hall.out]; simp [hyes]
              have HA := hid hall2
              clear hall2 hyes
              go_wp2
              go_roundg (gk - 1)
              case measure => have := HJ.out; omega
              case rel => exact ⟨j + 1, by have := HJ.out; omega, by go_num, HA, hb4⟩
          · obtain rfl : j = k := by have := HJ.out; omega
            have e2 : apGo [] fs = apGo (fs.take (j + 1)) (fs.drop (j + 1)) := by rw [hap.out, HAT.out, hall.out, HIF.out]; rfl
            have e3 : ∀ g ∈ fs.take (j + 1), isF g.1 g.2 = true := by
              intro g hg
              rw [take_snoc fs j _ HF.out, List.mem_append] at hg
              rcases hg with hg | hg
              · exact hisf.out g hg
              · simp at hg
                subst hg
                exact HIF.out
            have E2 := hid e2
            have E3 := hid e3
            clear e2 e3
            go_wp2
            go_roundg G
            case measure => have := HK.out; omega
            case rel => exact ⟨j + 1, by have := HK.out; omega, by go_num, E2, E3, step hy hb2⟩
    · obtain rfl : k = n := by have := HK.out; omega
      have e2 : apGo [] fs = true := by rw [hap.out, En.out, List.drop_length]; rfl
      have E := hid e2
      clear e2
      go_wp2
      go_ret
      exact ⟨by rw [E.out]; rfl, hb⟩
end Go.Proofs.Ytgigjfdgejajbaa
