/- The walks of EarlyOf and LengthOf, of impl and of spec: all that they are given, projects or not. No condition but that the numbers can be read. -/
import Derived.Test.YtdfcjhcnojgkiaaLength
import Derived.Deep.Cut
namespace Go.Proofs.Ytdfcjhcnojgkiaa
open Go.RowKit
set_option linter.unusedVariables false
set_option linter.unusedSimpArgs false
def Pj.earlyOf (p : Pj) : List Int := if p.ok then p.early else []
def Pj.lenOf (p : Pj) : Int := if p.ok then p.len else -1
set_option maxRecDepth 100000 in
set_option maxHeartbeats 2000000 in
theorem impl_LengthOf (p : Pj) (v1 v2 : Value) (w : World) (h1 : Ints w 0 v1 p.lo) (h2 : Ints w 0 v2 p.af) :
    Calls Try.prog 32 #[.agg #[v1, v2]] w fun e w' => e = .returned (.int .i64 p.lenOf) ∧ Below w.heap.size w w' := by
  have H1 := Lib.hid h1; have H2 := Lib.hid h2
  obtain ⟨a1, c1, rfl, hn1, hc1, -⟩ := h1.open
  obtain ⟨a2, c2, rfl, hn2, hc2, -⟩ := h2.open
  clear h1 h2
  go_enter Try.func32, Try.ntmps32
  go_wp2_with fail
  obtain ⟨W, hW, A0, hs, E⟩ := one_box w #[.slice a1 p.lo.length c1, .slice a2 p.af.length c2] 27
  rw [← hW.out]
  refine (impl_ProjectOk p _ _ _ (H1.out.ext E) (H2.out.ext E)).mono ?_
  rintro e w1 ⟨rfl, hb1⟩
  have A0 := A0.ext hb1
  have E := ext_trans E hb1
  obtain ⟨rc0, rz0⟩ := (A0).rules; have rl0 := (A0).lt
  cases hok : p.ok
  · have Hok := Lib.hid hok
    go_wp2_with fail
    go_ret
    exact ⟨by rw [show p.lenOf = -1 from if_neg (by simp [Hok.out])]; rfl, E⟩
  · have Hok := Lib.hid hok
    go_upto_region 3 with fail
    go_region_held3 (fun w' => w'.cell? ⟨w.heap.size, 0, none⟩ = some (.slice a1 p.lo.length c1) ∧ w'.cell? ⟨w.heap.size, 1, none⟩ = some (.slice a2 p.af.length c2))
      (first | exact ⟨A0.cell0 rfl, A0.cell0 rfl⟩ | exact ⟨A0a.cell0 rfl, A0a.cell0 rfl⟩ | exact ⟨A0b.cell0 rfl, A0b.cell0 rfl⟩)
      (first | (go_at_call 54
                refine (impl_early p _ _ _ (H1.out.ext (ext_drew E)) (H2.out.ext (ext_drew E)) hok).mono ?_
                rintro e wa ⟨v, rfl, hv, hba⟩
                have A0a := A0.drew.ext hba
                have Ea := ext_trans (ext_drew E) hba
                obtain ⟨av, cv, rfl, -⟩ := hv.open)
             | (go_at_call 39
                refine (impl_end p _ _ _ p.early _ (H1.out.ext Ea) (H2.out.ext Ea) (hv.base (Nat.zero_le _)) hok (early_len p) (fun j hj => by have := early_in hok j hj; omega)).mono ?_
                rintro e wb ⟨rfl, hbb⟩
                have A0b := A0a.ext hbb
                have Eb := ext_trans Ea hbb))
    go_wp2_with fail
    go_ret
    exact ⟨by rw [show p.lenOf = p.len from if_pos Hok.out]; rfl, Eb⟩
end Go.Proofs.Ytdfcjhcnojgkiaa
