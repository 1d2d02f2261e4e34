/- Plain facts on latest begins. Conditions as each lemma names them. -/
import Derived.Test.YtllicgomlohffaaEarlyOf
namespace Go.Proofs.Ytllicgomlohffaa
open Go.RowKit
set_option linter.unusedVariables false
set_option linter.unusedSimpArgs false
def Pj.late (p : Pj) : List Int := lateL p.L p.A p.len p.lo.length p.lo.length
def tOf (p : Pj) : Nat → Int := fun i => p.late.getD i 0
theorem late_len (p : Pj) : p.late.length = p.lo.length := lateL_length _ _ _ _ _
theorem late_is (p : Pj) : IsLate p.L p.A p.lo.length p.len (tOf p) := lateL_isLate _ _ _ _
theorem early_is (p : Pj) : IsEarly p.L p.A p.lo.length (fun j => p.early.getD j 0) := earlyL_early _ _ _
theorem len_in {p : Pj} (h : p.ok = true) : 0 ≤ p.len ∧ p.len ≤ 140 := by
  obtain ⟨h1, h2, h3, h4⟩ := ok_upto h
  refine ⟨endUp_pos _ _ _, endUp_le (by decide) fun i hi => ?_⟩
  have := early_in h i (by rw [early_len]; exact hi)
  have := h3 i hi
  omega
theorem late_in {p : Pj} (h : p.ok = true) : ∀ j, j < p.lo.length → 0 ≤ tOf p j ∧ tOf p j + p.L j ≤ p.len := fun j hj => by
  have h1 := late_early (early_is p) (late_is p) _ j rfl hj
  have h2 := (early_is p).pos j hj
  exact ⟨by omega, (late_is p).top j hj⟩
def Pj.lateOf (p : Pj) : List Int := if p.ok then p.late else []
theorem late_row (p : Pj) : rowOf p.lo.length (tOf p) = p.late := by
  have h := rowOf_self p.late
  rw [late_len] at h
  exact h
theorem two_pow_in (k : Nat) (h : k < 7) : (2 : Int) ^ k ≤ 64 := by
  have key : ∀ m : Fin 7, (2 : Int) ^ m.val ≤ 64 := by decide
  exact key ⟨k, h⟩
/-- the row of ends: the last m tasks looked at whole, of the next one the first q tasks before it -/
def endsRow (p : Pj) (n m q : Nat) : List Int := rowOf n fun j => if j < q then fall p.A (tOf p) p.len n j (m+1) else fall p.A (tOf p) p.len n j m
theorem endsRow_length (p : Pj) (n m q : Nat) : (endsRow p n m q).length = n := rowOf_length _ _
theorem endsRow_at (p : Pj) (n m q j : Nat) (h : j < n) : (endsRow p n m q).getD j 0 = if j < q then fall p.A (tOf p) p.len n j (m+1) else fall p.A (tOf p) p.len n j m := rowOf_getD _ _ _ h
theorem endsRow_next (p : Pj) (n m q : Nat) (hq : q < n - (m+1)) (hb : bit (p.A (n - (m+1))) q = true) :
    (endsRow p n m q).set q (min (fall p.A (tOf p) p.len n q m) (tOf p (n - (m+1)))) = endsRow p n m (q+1) := by
  rw [endsRow, rowOf_set]
  refine rowOf_congr _ _ _ fun j hj => ?_
  by_cases hjq : j = q
  · subst hjq
    rw [if_pos rfl, if_pos (by omega)]
    conv => rhs; unfold fall
    rw [if_pos (by simp [hb]; omega)]
  · rw [if_neg hjq]
    by_cases h : j < q
    · rw [if_pos h, if_pos (by omega)]
    · rw [if_neg h, if_neg (by omega)]
theorem endsRow_skip (p : Pj) (n m q : Nat) (hb : bit (p.A (n - (m+1))) q = false) : endsRow p n m (q+1) = endsRow p n m q := by
  refine rowOf_congr _ _ _ fun j hj => ?_
  by_cases hjq : j = q
  · subst hjq
    rw [if_pos (by omega), if_neg (by omega)]
    conv => lhs; unfold fall
    rw [if_neg (by simp [hb])]
  · by_cases h : j < q
    · rw [if_pos h, if_pos (by omega)]
    · rw [if_neg h, if_neg (by omega)]
theorem endsRow_full (p : Pj) (n m : Nat) : endsRow p n m (n - (m+1)) = endsRow p n (m+1) 0 := by
  refine rowOf_congr _ _ _ fun j hj => ?_
  rw [if_neg (Nat.not_lt_zero _)]
  by_cases h : j < n - (m+1)
  · rw [if_pos h]
  · rw [if_neg h]
    conv => rhs; unfold fall
    rw [if_neg (by simp [h])]
theorem endsRow_start (p : Pj) (n : Nat) : endsRow p n 0 0 = List.replicate n p.len := by
  unfold endsRow rowOf
  apply List.ext_getElem (by simp)
  intro j h1 h2
  simp [fall]
end Go.Proofs.Ytllicgomlohffaa
