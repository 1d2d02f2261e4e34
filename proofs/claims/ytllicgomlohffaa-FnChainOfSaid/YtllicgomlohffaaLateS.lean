/- The walk of spec.LateOf. No condition but that the numbers can be read. -/
import Derived.Test.YtllicgomlohffaaLate
import Derived.Deep.Cut
namespace Go.Proofs.Ytllicgomlohffaa
open Go.RowKit
set_option linter.unusedVariables false
set_option linter.unusedSimpArgs false
set_option maxRecDepth 100000 in
set_option maxHeartbeats 2000000 in
theorem spec_LateOf (p : Pj) (v1 v2 : Value) (w : World) (h1 : Ints w 0 v1 p.lo) (h2 : Ints w 0 v2 p.af) :
    Calls Try.prog 30 #[.agg #[v1, v2]] w (RetInts w p.lateOf) := by
  have H1 := Lib.hid h1; have H2 := Lib.hid h2
  obtain ⟨a1, c1, rfl, hn1, hc1, -⟩ := h1.open
  obtain ⟨a2, c2, rfl, hn2, hc2, -⟩ := h2.open
  clear h1 h2
  go_enter Try.func30, Try.ntmps30
  go_wp2_with fail
  obtain ⟨W, hW, A0, hs, E⟩ := one_box w #[.slice a1 p.lo.length c1, .slice a2 p.af.length c2] 27
  rw [← hW.out]
  refine (spec_ProjectOk p _ _ _ (H1.out.ext E) (H2.out.ext E)).mono ?_
  rintro e w1 ⟨rfl, hb1⟩
  have A0 := A0.ext hb1
  have E := ext_trans E hb1
  obtain ⟨rc0, rz0⟩ := (A0).rules; have rl0 := (A0).lt
  cases hok : p.ok
  · have Hok := Lib.hid hok
    go_wp2_with fail
    obtain ⟨w2, hw2, T0, hs2, E2⟩ := one_box w1 #[] 3
    rw [← hw2.out]
    go_ret
    have q := E.size
    exact ⟨_, rfl, by rw [show p.lateOf = [] from if_neg (by simp [Hok.out])]; exact Ints.ofBox T0 (by omega), ext_trans E E2⟩
  · have Hok := Lib.hid hok
    go_wp2_with fail
    refine (spec_l9Late p _ _ _ (H1.out.ext E) (H2.out.ext E) hok).mono ?_
    rintro e w2 ⟨v, rfl, hv, hb2⟩
    have q := E.size
    have V := Lib.hid hv
    obtain ⟨av, cv, rfl, -⟩ := hv.open
    clear hv
    go_wp2_with fail
    go_ret
    exact ⟨_, rfl, by rw [show p.lateOf = p.late from if_pos Hok.out]; exact V.out.base (by omega), ext_trans E hb2⟩
end Go.Proofs.Ytllicgomlohffaa
