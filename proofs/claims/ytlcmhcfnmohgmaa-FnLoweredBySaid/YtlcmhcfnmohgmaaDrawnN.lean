/- The draws of a plan and a number. No condition but that the code's bytes can be read. -/
import Derived.Test.YtlcmhcfnmohgmaaDrawPlan
import Derived.Test.YtlcmhcfnmohgmaaTail
namespace Go.Proofs.Ytlcmhcfnmohgmaa
open Go.RowKit
set_option linter.unusedVariables false
set_option linter.unusedSimpArgs false
def RetDrawnN (w : World) : Ending → World → Prop := fun e w' => ∃ (bs : Value) (p : Pl) (k : Int), e = .returned (.tuple #[.agg #[.int .i64 p.pts, bs], .int .i64 k]) ∧ Bds w' w.heap.size bs p.bs ∧ p.bs.length ≤ 10 ∧ 0 ≤ p.pts ∧ p.pts ≤ 7 ∧ Below w.heap.size w w'
set_option maxHeartbeats 2000000 in
theorem spec_DrawLoweredBy (a : Option Addr) (n cap : Nat) (w : World) (h : Byt w w.heap.size a n cap) : Calls Try.prog 18 #[.slice a n cap] w (RetDrawnN w) := by
  have H := Lib.hid h
  clear h
  go_enter Try.func18, Try.ntmps18
  go_wp2_with fail
  obtain ⟨W, hW, B0, hs, E⟩ := one_box w #[.int .i64 0, .slice none 0 0] 25
  rw [← hW.out]
  refine (spec_l20Open a n cap W w.heap.size (by omega) (H.out.below E)).mono ?_
  rintro e w1 ⟨rfl, hR, hb1⟩
  have E := ext_trans E hb1
  have B0 := B0.ext hb1
  have R := Lib.hid hR
  have q1 := hb1.size
  clear hR hb1
  go_wp2_with fail
  refine (spec_l20Plan w.heap.size W.heap.size 0 12 w1 R.out (by omega) (by omega)).mono ?_
  rintro e w2 ⟨bs, p, rfl, hbs, hl, h0, h7, hr, hg⟩
  have E := ext_grown E hg (fun k hk => by cases hk; omega)
  have B0 := B0.grown hg (fun e => by injection e with e; omega)
  have q2 := hg.size
  have R0 := R.out.lt
  have R := Lib.hid hr
  obtain ⟨av, cv, rfl, -⟩ := hbs.open
  have V := Lib.hid hbs
  clear hbs hr hg
  go_wp2_with fail
  refine (spec_pick w.heap.size W.heap.size _ 12 _ R.out (by omega)).mono ?_
  rintro e w3 ⟨x1, rfl, hx1, hy1, hr, hg, -⟩
  have E := ext_grown E hg (fun k hk => by cases hk; omega)
  have B0 := B0.grown hg (fun e => by injection e with e; omega)
  have R := Lib.hid hr
  have V := Lib.hid (V.out.near hg (by omega))
  have q3 := hg.size
  clear hr hg
  go_wp2_with fail
  refine (spec_pick w.heap.size W.heap.size _ 30 _ R.out (by omega)).mono ?_
  rintro e w4 ⟨x2, rfl, hx2, hy2, hr, hg, -⟩
  have E := ext_grown E hg (fun k hk => by cases hk; omega)
  have B0 := B0.grown hg (fun e => by injection e with e; omega)
  have R := Lib.hid hr
  have V := Lib.hid (V.out.near hg (by omega))
  have q4 := hg.size
  clear hr hg
  go_wp2_with fail
  refine (spec_pick w.heap.size W.heap.size _ 40 _ R.out (by omega)).mono ?_
  rintro e w5 ⟨x3, rfl, hx3, hy3, hr, hg, -⟩
  have E := ext_grown E hg (fun k hk => by cases hk; omega)
  have B0 := B0.grown hg (fun e => by injection e with e; omega)
  have R := Lib.hid hr
  have V := Lib.hid (V.out.near hg (by omega))
  have q5 := hg.size
  clear hr hg
  obtain ⟨rc2, rz2⟩ := (B0).rules; have rl2 := (B0).lt
  go_wp2_with fail
  refine bodyPost_ret (v := .tuple #[.agg #[.int .i64 p.pts, .slice av p.bs.length cv], _]) (by simp [results, Try.results18, go_sem, *]; rfl) rfl ?_
  exact ⟨_, p, _, rfl, ((V.out.low (by dsimp only; omega) _).low (by dsimp only; omega) _).base (by omega), hl, h0, h7, ext_set (ext_set E (Nat.le_refl _) _) (Nat.le_refl _) _⟩
end Go.Proofs.Ytlcmhcfnmohgmaa
