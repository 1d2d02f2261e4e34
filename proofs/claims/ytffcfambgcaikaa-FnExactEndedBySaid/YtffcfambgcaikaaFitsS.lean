/- The walks of spec.l2Fits, spec.FitsOk and spec.TableOf. No condition but that the bounds or the table can be read. -/
import Derived.Test.YtffcfambgcaikaaClosedS
namespace Go.Proofs.Ytffcfambgcaikaa
open Go.RowKit
set_option linter.unusedVariables false
set_option linter.unusedSimpArgs false
set_option maxHeartbeats 1000000 in
theorem spec_l2Fits (n : Nat) (v : Value) (hs : List Value) (D : Tbl) (w : World) (hG : TabG w 0 n n v hs D) :
    Calls Try.prog 92 #[v] w fun e w' => e = .returned (.bool (fitB D n)) ∧ Below w.heap.size w w' := by
  have G := Lib.hid hG
  obtain ⟨a, c, rfl, hc, hc2⟩ := hG.open
  clear hG
  go_enter Try.func92, Try.ntmps92
  go_wp2_with fail
  go_loopg [3] n (fun m kk wr => ∃ k : Nat, k ≤ n ∧ m = n - k ∧ kk = .int .i64 k ∧ wr = w ∧ Hid (∀ c, c < k → 0 ≤ D c c))
  case atStart => exact ⟨0, by omega, by omega, rfl, rfl, fun c hc => by omega⟩
  case round =>
    obtain ⟨k, hk, hgk, rfl, rfl, Hall⟩ := hrel
    have Hk := Lib.hid hgk
    clear hgk
    by_cases hlk : k < n
    · obtain ⟨g, ai, ci, hag, _, hg, _, hOi, hci, hci2, hri⟩ := G.out.head hlk
      subst hag
      have hln : (rowOf n (D k)).length = n := rowOf_length _ _
      obtain ⟨gi, hai, _, hgi, _, cx⟩ := hri.at_ (j := k) (by omega)
      subst hai
      rw [rowOf_getD _ _ _ hlk] at cx
      obtain ⟨x, Hx⟩ : ∃ x, Hid (x = D k k) := ⟨_, rfl⟩
      rw [← Hx.out] at cx
      clear hln hri
      by_cases hx0 : x < 0
      · go_wp2_with fail
        go_ret
        exact ⟨by rw [fitB_not hlk (by rw [← Hx.out]; exact hx0)]; rfl, ext_refl _⟩
      · go_wp2_with fail
        go_roundg (n - (k+1))
        case rel =>
          refine ⟨k+1, by omega, rfl, by go_num, rfl, fun c hc => ?_⟩
          by_cases hci : c = k
          · subst hci; rw [← Hx.out]; omega
          · exact Hall.out c (by omega)
        case measure => have := Hk.out; omega
    · have hkn : n = k := by omega
      subst hkn
      go_wp2_with fail
      go_ret
      exact ⟨by rw [fitB_iff.2 Hall.out]; rfl, ext_refl _⟩
set_option maxHeartbeats 1000000 in
theorem spec_FitsOk (p : Pl) (bs : Value) (w : World) (hv : Bds w 0 bs p.bs) :
    Calls Try.prog 68 #[.agg #[.int .i64 p.pts, bs]] w fun e w' => e = .returned (.bool p.fits) ∧ Below w.heap.size w w' := by
  have V := Lib.hid hv
  obtain ⟨a, c, rfl, hn, hc, -⟩ := hv.open
  clear hv
  go_enter Try.func68, Try.ntmps68
  go_wp2_with fail
  obtain ⟨W, hW, A0, hs, E⟩ := one_box w #[.int .i64 p.pts, .slice a p.bs.length c] 25
  rw [← hW.out]
  refine (spec_PlanOk p _ _ (V.out.ext E)).mono ?_
  rintro e w1 ⟨rfl, hb1⟩
  have A0 := A0.ext hb1
  have E := ext_trans E hb1
  obtain ⟨rc0, rz0⟩ := (A0).rules; have rl0 := (A0).lt
  cases hok : p.ok
  · have Hf : Hid (p.fits = false) := by rw [Pl.fits, hok]; exact Lib.hid rfl
    clear hok
    go_wp2_with fail
    go_ret
    exact ⟨by rw [Hf.out]; rfl, E⟩
  · obtain ⟨h1, h2, h3, h4, h5⟩ := plok_in hok
    have H5 := Lib.hid h5
    have H1 := Lib.hid h1
    have hfit : Hid (p.fits = fitB p.clo p.n) := by rw [Pl.fits, hok, Bool.true_and]; exact Lib.hid rfl
    clear hok h1 h5
    rw [H1.out]
    rw [H1.out] at rc0
    go_wp2_with fail
    refine (spec_l2Closed p.n _ p.bs _ (V.out.ext E) h3 (H5.out.wide (by decide) (by decide)) (by omega)).mono ?_
    rintro e w2 ⟨vt, ht, rfl, hG, hb2⟩
    have E := ext_trans E hb2
    have G := Lib.hid hG
    clear hG hb2 rc0 rz0 rl0 A0
    go_wp2_with fail
    refine (spec_l2Fits p.n vt ht p.clo _ (G.out.base (Nat.zero_le _))).mono ?_
    rintro e w3 ⟨rfl, hb3⟩
    rw [← hfit.out]
    go_wp2_with fail
    go_ret
    exact ⟨rfl, ext_trans E hb3⟩
end Go.Proofs.Ytffcfambgcaikaa
