/- The draw of FnBothPlans: two plans. No condition but that the code's bytes can be read. -/
import Derived.Test.YtlcmhcfnmohgmaaDrawnN
import Derived.Test.YtlcmhcfnmohgmaaDrawTwo
namespace Go.Proofs.Ytlcmhcfnmohgmaa
open Go.RowKit
set_option linter.unusedVariables false
set_option linter.unusedSimpArgs false
def RetDrawnTwo (w : World) : Ending → World → Prop := fun e w' => ∃ (bs bs' : Value) (p q : Pl), e = .returned (.tuple #[.agg #[.int .i64 p.pts, bs], .agg #[.int .i64 q.pts, bs']]) ∧ Bds w' w.heap.size bs p.bs ∧ Bds w' w.heap.size bs' q.bs ∧ p.bs.length ≤ 10 ∧ q.bs.length ≤ 10 ∧ 0 ≤ p.pts ∧ p.pts ≤ 7 ∧ 0 ≤ q.pts ∧ q.pts ≤ 7 ∧ Below w.heap.size w w'
theorem two_stores_b {w u : World} {p q : Pl} {av bv : Option Addr} {cv dv : Nat} (G : Below w.heap.size w u) (V : Bds u (w.heap.size + 1 + 1) (.slice av p.bs.length cv) p.bs) (Q : Bds u (w.heap.size + 1 + 1) (.slice bv q.bs.length dv) q.bs)
    (R0 : Box u w.heap.size 25 #[.int .i64 0, .slice none 0 0]) (R1 : Box u (w.heap.size + 1) 25 #[.int .i64 0, .slice none 0 0]) :
    ∃ wf, Hid (wf = (((u.setCell ⟨w.heap.size, 0, none⟩ (.int .i64 p.pts)).setCell ⟨w.heap.size, 1, none⟩ (.slice av p.bs.length cv)).setCell ⟨w.heap.size + 1, 0, none⟩ (.int .i64 q.pts)).setCell ⟨w.heap.size + 1, 1, none⟩ (.slice bv q.bs.length dv)) ∧
      Box wf w.heap.size 25 #[.int .i64 p.pts, .slice av p.bs.length cv] ∧ Box wf (w.heap.size + 1) 25 #[.int .i64 q.pts, .slice bv q.bs.length dv] ∧ Bds wf w.heap.size (.slice av p.bs.length cv) p.bs ∧ Bds wf w.heap.size (.slice bv q.bs.length dv) q.bs ∧ Below w.heap.size w wf := by
  refine ⟨_, rfl, ?_, ?_, ?_, ?_, ?_⟩
  · exact (((R0.set 0 (.int .i64 p.pts)).set 1 (.slice av p.bs.length cv)).far (p := ⟨w.heap.size + 1, 0, none⟩) (by dsimp only; omega) _).far (p := ⟨w.heap.size + 1, 1, none⟩) (by dsimp only; omega) _
  · exact (((R1.far (p := ⟨w.heap.size, 0, none⟩) (by dsimp only; omega) _).far (p := ⟨w.heap.size, 1, none⟩) (by dsimp only; omega) _).set 0 (.int .i64 q.pts)).set 1 (.slice bv q.bs.length dv)
  · exact ((((V.low (by dsimp only; omega) _).low (by dsimp only; omega) _).low (by dsimp only; omega) _).low (by dsimp only; omega) _).base (by omega)
  · exact ((((Q.low (by dsimp only; omega) _).low (by dsimp only; omega) _).low (by dsimp only; omega) _).low (by dsimp only; omega) _).base (by omega)
  · exact ext_set (ext_set (ext_set (ext_set G (Nat.le_refl _) _) (Nat.le_refl _) _) (by dsimp only; omega) _) (by dsimp only; omega) _
set_option maxRecDepth 100000 in
set_option maxHeartbeats 4000000 in
theorem spec_DrawBothPlans (a : Option Addr) (n cap : Nat) (w : World) (h : Byt w w.heap.size a n cap) : Calls Try.prog 42 #[.slice a n cap] w (RetDrawnTwo w) := by
  have H := Lib.hid h
  clear h
  go_enter Try.func42, Try.ntmps42
  go_wp2_with fail
  obtain ⟨W, hW, B0, B1, hs, E⟩ := two_boxes w #[.int .i64 0, .slice none 0 0] #[.int .i64 0, .slice none 0 0] 25 25
  rw [← hW.out]
  refine (spec_l20Open a n cap W w.heap.size (by omega) (H.out.below E)).mono ?_
  rintro e w1 ⟨rfl, hR, hb1⟩
  have E := ext_trans E hb1
  have B0 := B0.ext hb1
  have B1 := B1.ext hb1
  have R := Lib.hid hR
  have q1 := hb1.size
  clear hR hb1
  go_wp2_with fail
  refine (spec_l20Plans w.heap.size W.heap.size 0 w1 R.out (by omega)).mono ?_
  rintro e w2 ⟨bs, bs', p, q, rfl, hbs, hbs', hl, hl', h0, h7, h0', h7', hg⟩
  have E := ext_grown E hg (fun k hk => by cases hk; omega)
  have B0 := B0.grown hg (fun e => by injection e with e; omega)
  have B1 := B1.grown hg (fun e => by injection e with e; omega)
  have q2 := hg.size
  obtain ⟨av, cv, rfl, -⟩ := hbs.open
  obtain ⟨bv, dv, rfl, -⟩ := hbs'.open
  have V := Lib.hid (hbs.base (base' := w.heap.size + 1 + 1) (by omega))
  have Q := Lib.hid (hbs'.base (base' := w.heap.size + 1 + 1) (by omega))
  clear hbs hbs' hg
  obtain ⟨rc2, rz2⟩ := (B0).rules; have rl2 := (B0).lt
  obtain ⟨rc3, rz3⟩ := (B1).rules; have rl3 := (B1).lt
  go_wp2_with fail
  obtain ⟨wf, hwf, F0, F1, VF, QF, EF⟩ := two_stores_b E V.out Q.out B0 B1
  rw [← hwf.out]
  clear rc2 rz2 rl2 rc3 rz3 rl3
  obtain ⟨rc2, rz2⟩ := (F0).rules; have rl2 := (F0).lt
  obtain ⟨rc3, rz3⟩ := (F1).rules; have rl3 := (F1).lt
  refine bodyPost_ret (v := .tuple #[.agg #[.int .i64 p.pts, .slice av p.bs.length cv], .agg #[.int .i64 q.pts, .slice bv q.bs.length dv]]) (by simp [results, Try.results42, go_sem, *]; try rfl) rfl ?_
  exact ⟨_, _, p, q, rfl, VF, QF, hl, hl', h0, h7, h0', h7', EF⟩
end Go.Proofs.Ytlcmhcfnmohgmaa
