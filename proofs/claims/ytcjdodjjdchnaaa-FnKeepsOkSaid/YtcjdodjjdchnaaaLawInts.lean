/- The walks of the helpers of laws on rows of numbers: copies of the arguments, equality, marks. Conditions: the numbers can be read, and are at most a few million. -/
import Derived.Test.YtcjdodjjdchnaaaApp
import Derived.Deep.Cut
namespace Go.Proofs.Ytcjdodjjdchnaaa
open Go.RowKit
set_option linter.unusedVariables false
set_option linter.unusedSimpArgs false
theorem ext_drewN' (w : World) (n : Nat) : Below w.heap.size w (w.drewN n) := ⟨rfl, rfl, rfl, Nat.le_refl _, fun _ _ => rfl⟩
theorem eq_ints (l l' : List Int) (h : l.length = l'.length) (hall : ∀ j, j < l.length → l.getD j 0 = l'.getD j 0) : l = l' := by
  apply List.ext_getElem h
  intro i h1 h2
  have := hall i h1
  simpa [List.getD_eq_getElem?_getD, h1, h2] using this
def szI (left : Int) (n : Nat) : Int := if left - n < 0 then -1 else left - n
theorem szI_neg {left : Int} {n : Nat} (h : left - n < 0) : szI left n = -1 := if_pos h
theorem szI_pos {left : Int} {n : Nat} (h : ¬ left - n < 0) : szI left n = left - n := if_neg h
/-- A slice of numbers that came in: wherever it lies. -/
def AInts (w : World) (a : Option Addr) (n cap : Nat) (l : List Int) : Prop := l.length = n ∧ n ≤ cap ∧ cap ≤ 9223372036854775807 ∧
  ∀ j, j < n → ∃ b o, a = some ⟨b, o, none⟩ ∧ b < w.heap.size ∧ w.cell? ⟨b, o + j, none⟩ = some (.int .i64 (l.getD j 0))
theorem AInts.ext {w w' : World} {a : Option Addr} {n cap : Nat} {l : List Int} (h : AInts w a n cap l) (hb : Below w.heap.size w w') : AInts w' a n cap l := by
  obtain ⟨h1, h2, h3, h4⟩ := h
  refine ⟨h1, h2, h3, fun j hj => ?_⟩
  obtain ⟨b, o, rfl, g0, g1⟩ := h4 j hj
  exact ⟨b, o, rfl, Nat.lt_of_lt_of_le g0 hb.size, (hb.cell (by exact g0)).trans g1⟩
end Go.Proofs.Ytcjdodjjdchnaaa
