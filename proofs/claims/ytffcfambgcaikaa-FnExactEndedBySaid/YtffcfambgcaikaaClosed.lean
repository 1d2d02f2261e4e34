/- The walks of impl.TableOf, impl.closed and impl.FitsOk. No condition but that the bounds can be read. -/
import Derived.Test.YtffcfambgcaikaaStart
import Derived.Test.YtffcfambgcaikaaClose
import Derived.Test.YtffcfambgcaikaaTabG
namespace Go.Proofs.Ytffcfambgcaikaa
open Go.RowKit
set_option linter.unusedVariables false
set_option linter.unusedSimpArgs false
def RetClosed (w : World) (ok : Bool) (n : Nat) (T : Tbl) : Ending → World → Prop := fun e w' => ∃ v hs, e = .returned (.tuple #[v, .bool ok]) ∧ (ok = true → TabG w' w.heap.size n n v hs T) ∧ Below w.heap.size w w'
set_option maxHeartbeats 2000000 in
theorem impl_closed (p : Pl) (bs : Value) (w : World) (hv : Bds w 0 bs p.bs) :
    Calls Try.prog 76 #[.agg #[.int .i64 p.pts, bs]] w (RetClosed w p.fits p.n p.clo) := by
  have V := Lib.hid hv
  obtain ⟨a, c, rfl, hn, hc, -⟩ := hv.open
  clear hv
  go_enter Try.func76, Try.ntmps76
  go_wp2_with fail
  obtain ⟨W, hW, A0, hs, E⟩ := one_box w #[.int .i64 p.pts, .slice a p.bs.length c] 25
  rw [← hW.out]
  refine (impl_PlanOk p _ _ (V.out.ext E)).mono ?_
  rintro e w1 ⟨rfl, hb1⟩
  have A0 := A0.ext hb1
  have E := ext_trans E hb1
  obtain ⟨rc0, rz0⟩ := (A0).rules; have rl0 := (A0).lt
  cases hok : p.ok
  · have Hf : Hid (p.fits = false) := by rw [Pl.fits, hok]; exact Lib.hid rfl
    clear hok
    go_wp2_with fail
    go_ret2
    exact ⟨_, [], (by rw [Hf.out]; rfl), (fun h => by rw [Hf.out] at h; cases h), E⟩
  · have Hok := Lib.hid hok
    obtain ⟨h1, h2, h3, h4, h5⟩ := plok_in hok
    have H5 := Lib.hid h5
    have H1 := Lib.hid h1
    have hfit : Hid (p.fits = fitB (ipAll p.n p.tab p.n) p.n) := by rw [Pl.fits, hok, Bool.true_and]; exact Lib.hid (tab_ip p.bs).symm
    clear hok h1 h5
    rw [H1.out]
    rw [H1.out] at rc0
    go_wp2_with fail
    refine (impl_start p.n _ p.bs _ (V.out.ext E) h3 (H5.out.wide (by decide) (by decide)) (by omega)).mono ?_
    rintro e w2 ⟨O, b, rfl, hO, hP, hb2⟩
    have q := E.size
    have E := ext_trans E hb2
    have P := Lib.hid hP
    clear hP hb2 rc0 rz0 rl0 A0
    go_wp2_with fail
    refine (impl_close p.n O b p.tab _ P.out h3 (fun i j _ _ => by have := tab0_in H5.out (by decide) i j; exact ⟨by show -2000 ≤ tab0 p.bs i j; omega, this.2⟩)).mono ?_
    rintro e w3 ⟨rfl, hP, hb3⟩
    have E := E.trans (hb3.mono (by omega))
    have P := Lib.hid hP
    clear hP hb3
    rw [← hfit.out]
    cases hf : p.fits
    · go_wp2_with fail
      go_ret2
      exact ⟨_, [], (by rw [hf]; rfl), (fun h => by rw [hf] at h; cases h), E⟩
    · have hF := fits_ok hf
      have HF := Lib.hid hF
      have HFf := Lib.hid hf
      clear hf hF
      go_wp2_with fail
      go_ret2
      exact ⟨_, _, (by rw [HFf.out]; rfl), fun _ => (P.out.congr (fun i j hi hj => ip_fits (fun i _ => tab0_diag p.bs i) HF.out.2 i j hi hj)).asG.base (by omega), E⟩
set_option maxHeartbeats 1000000 in
theorem impl_FitsOk (p : Pl) (bs : Value) (w : World) (hv : Bds w 0 bs p.bs) :
    Calls Try.prog 54 #[.agg #[.int .i64 p.pts, bs]] w fun e w' => e = .returned (.bool p.fits) ∧ Below w.heap.size w w' := by
  have V := Lib.hid hv
  obtain ⟨a, c, rfl, hn, hc, -⟩ := hv.open
  clear hv
  go_enter Try.func54, Try.ntmps54
  go_wp2_with fail
  obtain ⟨W, hW, A0, hs, E⟩ := one_box w #[.int .i64 p.pts, .slice a p.bs.length c] 25
  rw [← hW.out]
  refine (impl_closed p _ _ (V.out.ext E)).mono ?_
  rintro e w1 ⟨v, hs, rfl, -, hb1⟩
  have A0 := A0.ext hb1
  have E := ext_trans E hb1
  go_wp2_with fail
  go_ret
  exact ⟨rfl, E⟩
end Go.Proofs.Ytffcfambgcaikaa
