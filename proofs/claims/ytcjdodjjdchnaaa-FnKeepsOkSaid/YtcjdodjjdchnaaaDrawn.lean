/- The draws of plans: what spec.DrawTurnedPlan and its like give: some plan of at most 10 bounds. No condition but that the code's bytes can be read. -/
import Derived.Test.YtcjdodjjdchnaaaDrawPlan
namespace Go.Proofs.Ytcjdodjjdchnaaa
open Go.RowKit
set_option linter.unusedVariables false
set_option linter.unusedSimpArgs false
def RetDrawn (w : World) : Ending → World → Prop := fun e w' => ∃ (bs : Value) (p : Pl), e = .returned (.agg #[.int .i64 p.pts, bs]) ∧ Bds w' w.heap.size bs p.bs ∧ p.bs.length ≤ 10 ∧ 0 ≤ p.pts ∧ p.pts ≤ 7 ∧ Below w.heap.size w w'
set_option maxHeartbeats 1000000 in
theorem spec_DrawTurnedPlan (a : Option Addr) (n cap : Nat) (w : World) (h : Byt w w.heap.size a n cap) : Calls Try.prog 15 #[.slice a n cap] w (RetDrawn w) := by
  have H := Lib.hid h
  clear h
  go_enter Try.func15, Try.ntmps15
  go_wp2_with fail
  obtain ⟨W, hW, B0, hs, E⟩ := one_box w #[.int .i64 0, .slice none 0 0] 25
  rw [← hW.out]
  refine (spec_l20Open a n cap W w.heap.size (by omega) (H.out.below E)).mono ?_
  rintro e w1 ⟨rfl, R, hb1⟩
  have E1 := ext_trans E hb1
  have B1 := B0.ext hb1
  have R := Lib.hid R
  go_wp2_with fail
  refine (spec_l20Plan w.heap.size W.heap.size 0 9 w1 R.out (by omega) (by omega)).mono ?_
  rintro e w2 ⟨bs, p, rfl, hbs, hl, h0, h7, -, hg⟩
  have E2 := ext_grown E1 hg (fun k hk => by cases hk; omega)
  have B2 := B1.grown hg (fun e => by injection e with e; omega)
  have hz1 := hb1.size
  obtain ⟨av, cv, rfl, -⟩ := hbs.open
  have Hbs := Lib.hid hbs
  clear hbs hb1 hg B0 B1 E1
  obtain ⟨rc2, rz2⟩ := (B2).rules; have rl2 := (B2).lt
  go_wp2_with fail
  refine bodyPost_ret (v := .agg #[.int .i64 p.pts, .slice av p.bs.length cv]) (by simp [results, Try.results15, go_sem, *]) rfl ?_
  exact ⟨_, p, rfl, ((Hbs.out.low (by dsimp only; omega) _).low (by dsimp only; omega) _).base (by omega), hl, h0, h7, ext_set (ext_set E2 (Nat.le_refl _) _) (Nat.le_refl _) _⟩
set_option maxHeartbeats 1000000 in
theorem spec_DrawDeskNew (a : Option Addr) (n cap : Nat) (w : World) (h : Byt w w.heap.size a n cap) : Calls Try.prog 22 #[.slice a n cap] w (RetDrawn w) := by
  have H := Lib.hid h
  clear h
  go_enter Try.func22, Try.ntmps22
  go_wp2_with fail
  obtain ⟨W, hW, B0, hs, E⟩ := one_box w #[.int .i64 0, .slice none 0 0] 25
  rw [← hW.out]
  refine (spec_l20Open a n cap W w.heap.size (by omega) (H.out.below E)).mono ?_
  rintro e w1 ⟨rfl, R, hb1⟩
  have E1 := ext_trans E hb1
  have B1 := B0.ext hb1
  have R := Lib.hid R
  go_wp2_with fail
  refine (spec_l20Plan w.heap.size W.heap.size 0 3 w1 R.out (by omega) (by omega)).mono ?_
  rintro e w2 ⟨bs, p, rfl, hbs, hl, h0, h7, -, hg⟩
  have E2 := ext_grown E1 hg (fun k hk => by cases hk; omega)
  have B2 := B1.grown hg (fun e => by injection e with e; omega)
  have hz1 := hb1.size
  obtain ⟨av, cv, rfl, -⟩ := hbs.open
  have Hbs := Lib.hid hbs
  clear hbs hb1 hg B0 B1 E1
  obtain ⟨rc2, rz2⟩ := (B2).rules; have rl2 := (B2).lt
  go_wp2_with fail
  refine bodyPost_ret (v := .agg #[.int .i64 p.pts, .slice av p.bs.length cv]) (by simp [results, Try.results22, go_sem, *]) rfl ?_
  exact ⟨_, p, rfl, ((Hbs.out.low (by dsimp only; omega) _).low (by dsimp only; omega) _).base (by omega), hl, h0, h7, ext_set (ext_set E2 (Nat.le_refl _) _) (Nat.le_refl _) _⟩
end Go.Proofs.Ytcjdodjjdchnaaa
