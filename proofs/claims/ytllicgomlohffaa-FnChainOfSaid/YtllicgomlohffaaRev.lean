/- The walk of slices.Reverse over numbers: the row is turned in place. Condition: the numbers can be read. -/
import Derived.Test.YtllicgomlohffaaLateM
import Derived.Test.YtllicgomlohffaaTail
namespace Go.Proofs.Ytllicgomlohffaa
open Go.RowKit
set_option linter.unusedVariables false
set_option linter.unusedSimpArgs false
def revAt (l : List Int) (i : Nat) : List Int := rowOf l.length fun j => if j < i ∨ l.length - 1 - j < i then l.getD (l.length - 1 - j) 0 else l.getD j 0
theorem revAt_zero (l : List Int) : revAt l 0 = l := (rowOf_congr _ _ _ fun j hj => if_neg (by omega)).trans (rowOf_self l)
theorem revAt_length (l : List Int) (i : Nat) : (revAt l i).length = l.length := rowOf_length _ _
theorem revAt_lo (l : List Int) (i : Nat) (h : i < l.length - 1 - i) : (revAt l i).getD i 0 = l.getD i 0 := by
  rw [revAt, rowOf_getD _ _ _ (by omega), if_neg (by omega)]
theorem revAt_hi (l : List Int) (i : Nat) (h : i < l.length - 1 - i) : (revAt l i).getD (l.length - 1 - i) 0 = l.getD (l.length - 1 - i) 0 := by
  rw [revAt, rowOf_getD _ _ _ (by omega), if_neg (by omega)]
theorem revAt_next (l : List Int) (i : Nat) (h : i < l.length - 1 - i) : ((revAt l i).set i (l.getD (l.length - 1 - i) 0)).set (l.length - 1 - i) (l.getD i 0) = revAt l (i+1) := by
  rw [revAt, rowOf_set, rowOf_set]
  refine rowOf_congr _ _ _ fun j hj => ?_
  by_cases h1 : j = l.length - 1 - i
  · rw [if_pos h1, if_pos (by omega), show l.length - 1 - j = i by omega]
  · rw [if_neg h1]
    by_cases h2 : j = i
    · rw [if_pos h2, if_pos (by omega), h2]
    · rw [if_neg h2]
      by_cases h3 : j < i ∨ l.length - 1 - j < i
      · rw [if_pos h3, if_pos (by omega)]
      · rw [if_neg h3, if_neg (by omega)]
theorem revAt_all (l : List Int) (i : Nat) (h : ¬ i < l.length - 1 - i) : revAt l i = l.reverse := by
  have e : l.reverse = rowOf l.length fun j => l.getD (l.length - 1 - j) 0 := by
    have := rowOf_self l.reverse
    rw [List.length_reverse] at this
    rw [← this]
    refine rowOf_congr _ _ _ fun j hj => ?_
    rw [List.getD_eq_getElem?_getD, List.getD_eq_getElem?_getD, List.getElem?_reverse hj]
  rw [e]
  refine rowOf_congr _ _ _ fun j hj => ?_
  by_cases h1 : j < i ∨ l.length - 1 - j < i
  · rw [if_pos h1]
  · rw [if_neg h1, show l.length - 1 - j = j by omega]
set_option maxRecDepth 100000 in
set_option maxHeartbeats 4000000 in
theorem slices_Reverse (v : Value) (l : List Int) (base : Nat) (w : World) (h : Ints w base v l) (hlen : l.length ≤ 1000000) :
    Calls Try.prog 61 #[v] w fun e w' => e = .returned (.tuple #[]) ∧ Ints w' base v l.reverse ∧ Below base w w' := by
  have H := Lib.hid h
  obtain ⟨a, c, rfl, hn, hc, -⟩ := h.open
  clear h
  obtain ⟨n, hN⟩ : ∃ n, Hid (n = l.length) := ⟨_, rfl⟩
  have H : Hid (Ints w base (.slice a n c) (revAt l 0)) := by rw [revAt_zero, hN.out]; exact H
  rw [← hN.out] at hn hlen ⊢
  go_enter Try.func61, Try.ntmps61
  go_wp2_with fail
  go_loopg [2, 3] n (fun m ii jj wr => ∃ i : Nat, i ≤ n ∧ m = n - i ∧ ii = .int .i64 i ∧ jj = .int .i64 ((n : Int) - 1 - i) ∧ Hid (Ints wr base (.slice a n c) (revAt l i)) ∧ Below base w wr)
  case atStart => exact ⟨0, by omega, by omega, rfl, by simp, H, Below.refl _ _⟩
  case round =>
    clear H
    obtain ⟨i, hi, hgk, rfl, rfl, H, E⟩ := hrel
    have Hk := Lib.hid hgk
    clear hgk
    by_cases hlt : i < n - 1 - i
    · have hj : ((n : Int) - 1 - i) = ((n - 1 - i : Nat) : Int) := by omega
      rw [hj]
      obtain ⟨j, Hj⟩ : ∃ j, Hid (j = n - 1 - i) := ⟨_, rfl⟩
      rw [← Hj.out] at hlt ⊢
      have hjn : j < n := by have := Hj.out; omega
      clear hj
      have hrl : (revAt l i).length = n := by rw [hN.out]; exact revAt_length l i
      obtain ⟨g, hag, hgb, hg, hfz, ci⟩ := H.out.at_ (j := i) (by omega)
      subst hag
      obtain ⟨_, hag, _, _, _, cj⟩ := H.out.at_ (j := j) (by omega)
      cases hag
      obtain ⟨x, Hx⟩ : ∃ x, Hid (x = l.getD i 0) := ⟨_, rfl⟩
      obtain ⟨y, Hy⟩ : ∃ y, Hid (y = l.getD j 0) := ⟨_, rfl⟩
      have hjl : Hid (j = l.length - 1 - i) := by rw [← hN.out]; exact Hj
      have hlt2 : i < l.length - 1 - i := by rw [← hjl.out]; exact hlt
      rw [revAt_lo l i hlt2, ← Hx.out] at ci
      rw [show (revAt l i).getD j 0 = y by rw [Hy.out, hjl.out]; exact revAt_hi l i hlt2] at cj
      clear hrl
      have hij : i ≠ j := by omega
      clear hlt2
      go_wp2_with fail
      go_region
      go_wp2_with fail
      go_roundg (n - (i+1))
      case rel =>
        refine ⟨i+1, by omega, rfl, by go_num, by have := Hj.out; go_num, ?_, ?_⟩
        · have := ((H.out.set i y).set j x).drew
          rw [show ((revAt l i).set i y).set j x = revAt l (i+1) by rw [Hx.out, Hy.out, hjl.out]; exact revAt_next l i (by rw [← hjl.out]; exact hlt)] at this
          exact Lib.hid this
        · exact ((E.setCell hgb _).setCell hgb _).drew
      case measure => have := Hk.out; omega
    · have hj : Hid (((n : Int) - 1 - i) = (n : Int) - 1 - i) := rfl
      have hnl : ¬ ((i : Int) < (n : Int) - 1 - i) := by omega
      go_wp2_with fail
      go_end0
      refine ⟨rfl, ?_, E⟩
      have := H.out
      rw [revAt_all l i (by rw [← hN.out]; exact hlt)] at this
      exact this
end Go.Proofs.Ytllicgomlohffaa
