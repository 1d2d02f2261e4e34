/- The draw of FnPlanOfTable: one plan of few points. No condition but that the code's bytes can be read. -/
import Derived.Test.YtpccfkbpnfbdaaaDrawFew

import Derived.Test.YtpccfkbpnfbdaaaTail
namespace Go.Proofs.Ytpccfkbpnfbdaaa
open Go.RowKit
set_option linter.unusedVariables false
set_option linter.unusedSimpArgs false
def RetDrawnF (w : World) : Ending → World → Prop := fun e w' => ∃ (bs : Value) (p : Pl), e = .returned (.agg #[.int .i64 p.pts, bs]) ∧ Bds w' w.heap.size bs p.bs ∧ p.bs.length ≤ 10 ∧ 0 ≤ p.pts ∧ p.pts ≤ 7 ∧ Below w.heap.size w w'
set_option maxHeartbeats 2000000 in
theorem spec_DrawPlanOfTable (a : Option Addr) (n cap : Nat) (w : World) (h : Byt w w.heap.size a n cap) : Calls Try.prog 27 #[.slice a n cap] w (RetDrawnF w) := by
  have H := Lib.hid h
  clear h
  go_enter Try.func27, Try.ntmps27
  go_wp2_with fail
  obtain ⟨W, hW, B0, hs, E⟩ := one_box w #[.int .i64 0, .slice none 0 0] 29
  rw [← hW.out]
  refine (spec_l20Open a n cap W w.heap.size (by omega) (H.out.below E)).mono ?_
  rintro e w1 ⟨rfl, hR, hb1⟩
  have E := ext_trans E hb1
  have B0 := B0.ext hb1
  have R := Lib.hid hR
  have q1 := hb1.size
  clear hR hb1
  go_wp2_with fail
  refine (spec_l20Few w.heap.size W.heap.size 0 9 w1 R.out (by omega) (by omega)).mono ?_
  rintro e w2 ⟨bs, p, rfl, hbs, hl, h0, h7, hr, hg⟩
  have E := ext_grown E hg (fun k hk => by cases hk; omega)
  have B0 := B0.grown hg (fun e => by injection e with e; omega)
  have q2 := hg.size
  obtain ⟨av, cv, rfl, -⟩ := hbs.open
  have V := Lib.hid hbs
  clear hbs hg hr
  obtain ⟨rc2, rz2⟩ := (B0).rules; have rl2 := (B0).lt
  go_wp2_with fail
  refine bodyPost_ret (v := .agg #[.int .i64 p.pts, .slice av p.bs.length cv]) (by simp [results, Try.results27, go_sem, *]) rfl ?_
  exact ⟨_, p, rfl, ((V.out.low (by dsimp only; omega) _).low (by dsimp only; omega) _).base (by omega), hl, h0, h7, ext_set (ext_set E (Nat.le_refl _) _) (Nat.le_refl _) _⟩
end Go.Proofs.Ytpccfkbpnfbdaaa
