/- The walks of impl.WithBound, impl.SetTo, impl.BothPlans: each returns the plan with further bounds, if it is one, and whether it is. Conditions: the bounds can be read, at most a million. -/
import Derived.Test.YtffcfambgcaikaaPlanMk
namespace Go.Proofs.Ytffcfambgcaikaa
open Go.RowKit
set_option linter.unusedVariables false
set_option linter.unusedSimpArgs false
def Pl.plus (p : Pl) (l : List Bd) : Pl := ⟨p.pts, p.bs ++ l⟩
theorem own_lit {w : World} (cs : Array Value) (l : List Bd) (h : cs.toList = bcells l) (hl : l.length ≤ 1000) : Bds (w.alloc (.cells cs 78)) 0 (.slice (some ⟨w.heap.size, 0, none⟩) l.length l.length) l := by
  have := World.ownsRow_lit (base := 0) (e := 78) (size := 3) w cs l.length (Nat.zero_le _) (by unfold maxLen; omega) (by rw [← bcells_length, ← h]; simp)
  unfold Bds
  rw [← h]
  exact this
end Go.Proofs.Ytffcfambgcaikaa
