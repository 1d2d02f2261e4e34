/- How the arguments of the laws on projects read as data: rows of numbers, and projects. No condition. -/
import Derived.Test.YtllicgomlohffaaLawInts
import Derived.Test.YtllicgomlohffaaRows
import Derived.ProofKit
import Derived.OpenShut
import Derived.ShutString
import Derived.ChangeOld
import Derived.ChangeSlices
import Derived.Deep.Slices
import Derived.Deep.Strs
import Derived.Lib.SmallJoins
namespace Go.Proofs.Ytllicgomlohffaa
open Go.RowKit Go.ChangeShapes Go.WideShapes Go.ChangeAt
set_option linter.unusedVariables false
set_option linter.unusedSimpArgs false
theorem own : ownKnob Try.prog.godebug = none := by kernel_rfl
theorem laidOut : laidOutB Try.prog = true := by kernel_rfl
theorem cellsI : Try.prog.cellsOf 3 = 1 := by kernel_rfl
theorem args_ints {H : Type} {enc : TypeId × Value → H} {W : World} {fuel : Nat} {v : Value} {x : DataW H × List MemPlace}
    (hf : DataW.trod enc Try.prog W 0 (fun _ => true) true fuel 22 [v] = some x) : ∃ a n cap l, v = .slice a n cap ∧ AInts W a n cap l := by
  rcases open_ints Try.underlying22 Try.underlying3 cellsI hf with ⟨hcs, hx⟩ | ⟨a, len, cap, zs, hcs, _, hl, hm, hz, hx, hcell, hwz⟩
  · simp at hcs
    subst hcs
    exact ⟨none, 0, 0, [], rfl, rfl, Nat.le_refl _, by omega, fun j hj => by omega⟩
  · simp at hcs
    subst hcs
    simp only [if_true] at hz
    refine ⟨some a, len, cap, zs.take len, rfl, by simp; omega, hl, by unfold maxLen at hm; exact hm, fun j hj => ?_⟩
    have hc := hcell j (by omega)
    have hlt := World.block_lt_of_cell? W _ hc
    obtain ⟨b, o, s⟩ := a
    have hs : s = none := by
      have h0 := hcell 0 (by omega)
      cases s with
      | none => rfl
      | some s => simp [World.cell?, Addr.add] at h0; split at h0 <;> simp at h0
    subst hs
    rw [Addr.add_lit] at hc hlt
    refine ⟨b, o, rfl, hlt, ?_⟩
    rw [hc]
    simp [hj, List.getD_eq_getElem?_getD]
theorem arg_ints {H : Type} {enc : TypeId × Value → H} {W : World} {base : Nat} {r : Reach} {v : Value} {d : DataW H} {p : List MemPlace}
    (hv : Value.okWide Try.prog W r base 22 v) (h : DataW.Trod enc Try.prog W 0 (fun _ => true) true 22 v d p) :
    ∃ a n cap l, v = .slice a n cap ∧ AInts W a n cap l := by
  obtain ⟨a1, len, cap, rfl⟩ := okWide_slice Try.underlying22 hv
  obtain ⟨fuel, hf⟩ := h
  exact args_ints (v := .slice a1 len cap) hf
theorem cellsPj : Try.prog.cellsOf 24 = 2 := by kernel_rfl
set_option maxRecDepth 100000 in
theorem arg_project {H : Type} {enc : TypeId × Value → H} {W : World} {base : Nat} {r : Reach} {v : Value} {d : DataW H} {p : List MemPlace}
    (hv : Value.okWide Try.prog W r base 24 v) (h : DataW.Trod enc Try.prog W 0 (fun _ => true) true 24 v d p) :
    ∃ a n cap l c m cbp t, v = .agg #[.slice a n cap, .slice c m cbp] ∧ AInts W a n cap l ∧ AInts W c m cbp t := by
  obtain ⟨v0, v1, y0, y1, n, rfl, -, -, t0, t1⟩ := Joins.open_agg2 Try.underlying24 (by kernel_rfl) cellsPj hv h
  obtain ⟨a, n, cap, l, rfl, hl⟩ := args_ints t0
  obtain ⟨c, m, cbp, t, rfl, ht⟩ := args_ints t1
  exact ⟨a, n, cap, l, c, m, cbp, t, rfl, hl, ht⟩
end Go.Proofs.Ytllicgomlohffaa
