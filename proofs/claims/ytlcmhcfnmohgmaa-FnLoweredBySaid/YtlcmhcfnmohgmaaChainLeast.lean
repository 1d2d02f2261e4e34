/- The least number with a property. No program in sight. No condition. -/
namespace Go.Proofs.Ytlcmhcfnmohgmaa
def leastLt (P : Nat → Bool) (n : Nat) : Nat := (List.range n).findIdx P
theorem least_le (P : Nat → Bool) (n : Nat) : leastLt P n ≤ n := by
  have := List.findIdx_le_length (xs := List.range n) (p := P)
  simpa [leastLt] using this
theorem least_at {P : Nat → Bool} {n : Nat} (h : leastLt P n < n) : P (leastLt P n) = true := by
  have h' : (List.range n).findIdx P < (List.range n).length := by simpa [leastLt] using h
  have := List.findIdx_getElem (w := h')
  simpa [leastLt] using this
theorem least_not {P : Nat → Bool} {n i : Nat} (h : i < leastLt P n) : P i = false := by
  have hn : i < n := Nat.lt_of_lt_of_le h (least_le P n)
  have := List.not_of_lt_findIdx (xs := List.range n) (p := P) (i := i) h
  simpa using this
end Go.Proofs.Ytlcmhcfnmohgmaa
