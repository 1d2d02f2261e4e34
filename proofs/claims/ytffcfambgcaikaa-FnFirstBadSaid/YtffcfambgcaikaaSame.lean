/- The helpers of the drawn laws: samePlan tells whether two plans are equal; alive is true. No condition but that the bounds can be read. -/
import Derived.Test.YtffcfambgcaikaaPlanOk
import Derived.Test.YtffcfambgcaikaaLawPlan
import Derived.Deep.Cut
namespace Go.Proofs.Ytffcfambgcaikaa
open Go.RowKit
set_option linter.unusedVariables false
set_option linter.unusedSimpArgs false
set_option maxHeartbeats 1000000 in
theorem laws_alive (w : World) : Calls Try.prog 13 #[] w fun e w' => e = .returned (.bool true) ∧ Below w.heap.size w w' := by
  have H1 := Lib.hid (show (⟨1, []⟩ : Pl).ok = true by decide)
  have H2 := Lib.hid (show (⟨0, []⟩ : Pl).ok = false by decide)
  go_enter Try.func13, Try.ntmps13
  go_wp2_with fail
  refine (impl_PlanOk ⟨1, []⟩ (.slice none 0 0) _ (Bds.nil _ _)).mono ?_
  rintro e w1 ⟨rfl, hb1⟩
  rw [H1.out]
  go_wp2_with fail
  refine (impl_PlanOk ⟨0, []⟩ (.slice none 0 0) _ (Bds.nil _ _)).mono ?_
  rintro e w2 ⟨rfl, hb2⟩
  rw [H2.out]
  go_wp2_with fail
  go_ret
  exact ⟨rfl, ext_trans hb1 hb2⟩
end Go.Proofs.Ytffcfambgcaikaa
