/- The walks of impl.TurnedPlan and spec.TurnedPlan: both return the plan 'Pl.turned', in new memory. Conditions: the bounds can be read, and are at most two million. -/
import Derived.Test.YtffcfambgcaikaaPlanMk
import Derived.Test.YtffcfambgcaikaaTail
namespace Go.Proofs.Ytffcfambgcaikaa
open Go.RowKit
set_option linter.unusedVariables false
set_option linter.unusedSimpArgs false
theorem take_map_next {α β : Type} (l : List α) (f : α → β) (j : Nat) (b : α) (h : l[j]? = some b) : (l.take (j+1)).map f = (l.take j).map f ++ [f b] := by
  rw [List.take_add_one, h]; simp
theorem cell_alloc {w : World} {b o : Nat} (h : b < w.heap.size) (x : Obj) : (w.alloc x).cell? ⟨b, o, none⟩ = w.cell? ⟨b, o, none⟩ := World.cell?_alloc_lt _ _ _ h
theorem lenOwn {w : World} {base : Nat} {v : Value} {l : List Bd} {n : Nat} (h : Bds w base v l) (hn : l.length = n) : w.ownsRow base 78 3 v n (bcells l) := by subst hn; exact h
end Go.Proofs.Ytffcfambgcaikaa
