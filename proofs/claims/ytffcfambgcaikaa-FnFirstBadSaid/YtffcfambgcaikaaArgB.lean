/- How a code of bytes reads as data. No condition. -/
import Derived.Test.YtffcfambgcaikaaDraw
import Derived.Test.YtffcfambgcaikaaRows
import Derived.ProofKit
import Derived.OpenShut
import Derived.ShutString
import Derived.ChangeOld
import Derived.ChangeSlices
import Derived.Deep.Slices
import Derived.Deep.Strs
import Derived.Lib.SmallJoins
namespace Go.Proofs.Ytffcfambgcaikaa
open Go.RowKit Go.ChangeShapes Go.WideShapes Go.ChangeAt
set_option linter.unusedVariables false
set_option linter.unusedSimpArgs false
theorem own : ownKnob Try.prog.godebug = none := by kernel_rfl
theorem laidOut : laidOutB Try.prog = true := by kernel_rfl
theorem cellsU : Try.prog.cellsOf 5 = 1 := by kernel_rfl
set_option maxRecDepth 100000 in
theorem arg_bytes {H : Type} {enc : TypeId × Value → H} {W : World} {base : Nat} {r : Reach} {v : Value} {d : DataW H} {p : List MemPlace}
    (hv : Value.okWide Try.prog W r base 22 v) (h : DataW.Trod enc Try.prog W 0 (fun _ => true) true 22 v d p) :
    ∃ a n cap, v = .slice a n cap ∧ Byt W W.heap.size a n cap := by
  obtain ⟨a1, len, cap, rfl⟩ := okWide_slice Try.underlying22 hv
  obtain ⟨fuel, hf⟩ := h
  rcases open_ints Try.underlying22 Try.underlying5 cellsU hf with ⟨hcs, hx⟩ | ⟨a, len', cap', zs, hcs, _, hl, hm, hz, hx, hcell, hwz⟩
  · simp [Value.cells] at hcs
    obtain ⟨rfl, rfl, rfl⟩ := hcs
    exact ⟨none, 0, 0, rfl, Nat.le_refl _, Nat.zero_le _, fun j hj => by omega⟩
  · simp [Value.cells] at hcs
    obtain ⟨rfl, rfl, rfl⟩ := hcs
    simp only [if_true] at hz
    refine ⟨some a, len, cap, rfl, hl, by unfold maxLen at hm; exact hm, fun j hj => ?_⟩
    have hc := hcell j (by omega)
    have hlt := World.block_lt_of_cell? W _ hc
    obtain ⟨b, o, s⟩ := a
    have hs : s = none := by
      have h0 := hcell 0 (by omega)
      cases s with
      | none => rfl
      | some s => simp [World.cell?, Addr.add] at h0; split at h0 <;> simp at h0
    subst hs
    rw [Addr.add_lit] at hc hlt
    have hr := range_u8 hwz j
    rw [← List.getD_eq_getElem?_getD] at hr
    exact ⟨b, o, zs.getD j 0, rfl, hlt, hc, by omega, by omega⟩
end Go.Proofs.Ytffcfambgcaikaa
