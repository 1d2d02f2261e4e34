/- Plain facts on chains of critical tasks. No program in sight. No condition but those each lemma names. -/
import Derived.Test.YtllicgomlohffaaTaskMath
namespace Go.Proofs.Ytllicgomlohffaa
set_option linter.unusedVariables false
/-- the least number below n with a property, n if there is none -/
def leastLt (P : Nat → Bool) (n : Nat) : Nat := (List.range n).findIdx P
theorem least_le (P : Nat → Bool) (n : Nat) : leastLt P n ≤ n := by
  have := List.findIdx_le_length (xs := List.range n) (p := P)
  simpa [leastLt] using this
theorem least_at {P : Nat → Bool} {n : Nat} (h : leastLt P n < n) : P (leastLt P n) = true := by
  have h' : (List.range n).findIdx P < (List.range n).length := by simpa [leastLt] using h
  have := List.findIdx_getElem (w := h')
  simpa [leastLt] using this
theorem least_not {P : Nat → Bool} {n i : Nat} (h : i < leastLt P n) : P i = false := by
  have hn : i < n := Nat.lt_of_lt_of_le h (least_le P n)
  have := List.not_of_lt_findIdx (xs := List.range n) (p := P) (i := i) h
  simpa using this
theorem least_lt {P : Nat → Bool} {n i : Nat} (hi : i < n) (hp : P i = true) : leastLt P n ≤ i := by
  rcases Nat.lt_or_ge i (leastLt P n) with h | h
  · rw [least_not h] at hp; cases hp
  · exact h
/-- the task before, in a chain -/
def prevOf (L A e : Nat → Int) (i : Nat) : Nat := leastLt (fun b => bit (A i) b && (e b + L b == e i)) i
theorem prev_at {L A e : Nat → Int} {n i : Nat} (h : IsEarly L A n e) (hi : i < n) (h0 : 0 < e i) : prevOf L A e i < i ∧ bit (A i) (prevOf L A e i) = true ∧ e (prevOf L A e i) + L (prevOf L A e i) = e i := by
  rcases h.hit i hi with h1 | ⟨j, hj, hb, he⟩
  · omega
  · have hp : (fun b => bit (A i) b && (e b + L b == e i)) j = true := by simp [hb, he]
    have hlt : prevOf L A e i < i := Nat.lt_of_le_of_lt (least_lt hj hp) hj
    have := least_at hlt
    simp only [Bool.and_eq_true, beq_iff_eq] at this
    exact ⟨hlt, this.1, this.2⟩
/-- the chain that ends with task i, the last task first -/
def backOf (L A e : Nat → Int) (i : Nat) : List Nat := i :: (if h : 0 < e i ∧ prevOf L A e i < i then backOf L A e (prevOf L A e i) else [])
termination_by i
decreasing_by exact h.2
theorem back_more {L A e : Nat → Int} {n i : Nat} (h : IsEarly L A n e) (hi : i < n) (h0 : 0 < e i) : backOf L A e i = i :: backOf L A e (prevOf L A e i) := by
  conv => lhs; rw [backOf]
  rw [dif_pos ⟨h0, (prev_at h hi h0).1⟩]
theorem back_end {L A e : Nat → Int} {i : Nat} (h0 : e i ≤ 0) : backOf L A e i = [i] := by
  rw [backOf, dif_neg (by omega)]
theorem back_len {L A e : Nat → Int} {n : Nat} (h : IsEarly L A n e) : ∀ i, i < n → 1 ≤ (backOf L A e i).length ∧ (backOf L A e i).length ≤ i + 1 := by
  intro i
  induction i using Nat.strongRecOn with
  | _ i ih =>
    intro hi
    by_cases h0 : 0 < e i
    · have hp := prev_at h hi h0
      have := ih _ hp.1 (by omega)
      rw [back_more h hi h0, List.length_cons]; omega
    · rw [back_end (by omega)]; simp
def chainHead (i : Nat) : List Nat → Nat
  | [] => i
  | x :: _ => x
/-- each task of it is after the one before, and all lengths end with the end of the last -/
theorem back_good {L A e t : Nat → Int} {n : Nat} (h : IsEarly L A n e) (ht : IsLate L A n (endUp L e n) t) : ∀ i, i < n → t i = e i →
    (∀ j, j < (backOf L A e i).length → (backOf L A e i).getD j 0 < n ∧ t ((backOf L A e i).getD j 0) = e ((backOf L A e i).getD j 0)) ∧
    (∀ j, j + 1 < (backOf L A e i).length → (backOf L A e i).getD (j+1) 0 < (backOf L A e i).getD j 0 ∧ bit (A ((backOf L A e i).getD j 0)) ((backOf L A e i).getD (j+1) 0) = true) ∧
    ((backOf L A e i).map L).foldr (· + ·) 0 = e i + L i := by
  intro i
  induction i using Nat.strongRecOn with
  | _ i ih =>
    intro hi hti
    by_cases h0 : 0 < e i
    · have hp := prev_at h hi h0
      have hpn : prevOf L A e i < n := by omega
      have htp : t (prevOf L A e i) = e (prevOf L A e i) := by
        have := ht.up i hi _ hp.1 hp.2.1
        have := late_early h ht _ _ rfl hpn
        omega
      obtain ⟨g1, g2, g3⟩ := ih _ hp.1 hpn htp
      have head : (backOf L A e (prevOf L A e i)).getD 0 0 = prevOf L A e i := by rw [backOf]; rfl
      rw [back_more h hi h0]
      refine ⟨fun j hj => ?_, fun j hj => ?_, ?_⟩
      · cases j with
        | zero => exact ⟨hi, hti⟩
        | succ j => rw [List.getD_cons_succ]; exact g1 j (by simpa using hj)
      · cases j with
        | zero => rw [List.getD_cons_succ, List.getD_cons_zero, head]; exact ⟨hp.1, hp.2.1⟩
        | succ j => rw [List.getD_cons_succ, List.getD_cons_succ]; exact g2 j (by simpa using hj)
      · rw [List.map_cons, List.foldr_cons, g3]; omega
    · rw [back_end (by omega)]
      have := h.pos i hi
      refine ⟨fun j hj => ?_, fun j hj => ?_, ?_⟩
      · obtain rfl : j = 0 := by simpa using hj
        exact ⟨hi, hti⟩
      · simp at hj
      · simp; omega
/-- the last task of the chain: the first one that ends last -/
def lastOf (L e : Nat → Int) (n : Nat) : Nat := leastLt (fun k => e k + L k == endUp L e n) n
theorem last_at {L A e : Nat → Int} {n : Nat} (h : IsEarly L A n e) (hn : 0 < n) (hL : ∀ j, j < n → 1 ≤ L j) : lastOf L e n < n ∧ e (lastOf L e n) + L (lastOf L e n) = endUp L e n := by
  rcases endUp_hit L e n with h0 | ⟨k, hk, he⟩
  · have := endUp_up L e n 0 hn; have := h.pos 0 hn; have := hL 0 hn; omega
  · have hp : (fun k => e k + L k == endUp L e n) k = true := by simp [he]
    have hlt : lastOf L e n < n := Nat.lt_of_le_of_lt (least_lt hk hp) hk
    have := least_at hlt
    simp only [beq_iff_eq] at this
    exact ⟨hlt, this⟩
theorem last_late {L A e t : Nat → Int} {n : Nat} (h : IsEarly L A n e) (ht : IsLate L A n (endUp L e n) t) (hn : 0 < n) (hL : ∀ j, j < n → 1 ≤ L j) : t (lastOf L e n) = e (lastOf L e n) := by
  obtain ⟨h1, h2⟩ := last_at h hn hL
  have := ht.top _ h1
  have := late_early h ht _ _ rfl h1
  omega
/-- what a number shifted tells, the row reversed -/
theorem getD_rev {l : List Nat} {j : Nat} (h : j < l.length) : l.reverse.getD j 0 = l.getD (l.length - 1 - j) 0 := by
  rw [List.getD_eq_getElem?_getD, List.getD_eq_getElem?_getD, List.getElem?_reverse h]
end Go.Proofs.Ytllicgomlohffaa
