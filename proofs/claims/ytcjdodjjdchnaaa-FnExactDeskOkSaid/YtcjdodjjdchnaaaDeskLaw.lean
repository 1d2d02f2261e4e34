/- The walks of the helpers of exact laws on desks without plans of before: equality, marks. Conditions: the bounds can be read, and are at most a few million. -/
import Derived.Test.YtcjdodjjdchnaaaDesk
namespace Go.Proofs.Ytcjdodjjdchnaaa
open Go.RowKit
set_option linter.unusedVariables false
set_option linter.unusedSimpArgs false
set_option maxHeartbeats 1000000 in
theorem laws_eqPlanS0 (w : World) : Calls Try.prog 80 #[.slice none 0 0, .slice none 0 0] w fun e w' => e = .returned (.bool true) ∧ Below w.heap.size w w' := by
  go_enter Try.func80, Try.ntmps80
  go_wp2_with fail
  refine wp_loop_rounds 1 ?_
  rw [rounds_succ]
  go_wp2_with fail
  go_ret
  exact ⟨rfl, ext_refl _⟩
set_option maxHeartbeats 1000000 in
theorem laws_markPlanS0 (k : Int) (w : World) : Calls Try.prog 83 #[.slice none 0 0, .int .i64 k] w fun e w' => e = .returned (.int .i64 k) ∧ w = w' := by
  go_enter Try.func83, Try.ntmps83
  go_wp2_with fail
  refine wp_loop_rounds 1 ?_
  rw [rounds_succ]
  go_wp2_with fail
  go_ret
  exact ⟨rfl, rfl⟩
set_option maxHeartbeats 1000000 in
theorem laws_heldPlanS0 (k : Int) (w : World) : Calls Try.prog 84 #[.slice none 0 0, .int .i64 k] w fun e w' => e = .returned (.int .i64 k) ∧ w = w' := by
  go_enter Try.func84, Try.ntmps84
  go_wp2_with fail
  refine wp_loop_rounds 1 ?_
  rw [rounds_succ]
  go_wp2_with fail
  go_ret
  exact ⟨rfl, rfl⟩
set_option maxHeartbeats 1000000 in
theorem laws_eqDesk0 (p : Pl) (v v' : Value) (w : World) (hv : Bds w 0 v p.bs) (hv' : Bds w 0 v' p.bs) :
    Calls Try.prog 44 #[.agg #[.int .i64 p.pts, v, .slice none 0 0], .agg #[.int .i64 p.pts, v', .slice none 0 0]] w fun e w' => e = .returned (.bool true) ∧ Below w.heap.size w w' := by
  have Hv := Lib.hid hv; have Hv' := Lib.hid hv'
  obtain ⟨a, cap, rfl, hn, hc, -⟩ := hv.open
  obtain ⟨a', cap', rfl, hn', hc', -⟩ := hv'.open
  clear hv hv'
  go_enter Try.func44, Try.ntmps44
  go_wp2_with fail
  obtain ⟨W, hW, A0, A1, hs, E⟩ := two_boxes w #[.int .i64 p.pts, .slice a p.bs.length cap, .slice none 0 0] #[.int .i64 p.pts, .slice a' p.bs.length cap', .slice none 0 0] 34 34
  rw [← hW.out]
  refine (laws_eqPlan p p _ _ _ (Hv.out.ext E) (Hv'.out.ext E)).mono ?_
  rintro e w1 ⟨rfl, hb1⟩
  rw [decide_eq_true rfl]
  have A0 := A0.ext hb1
  have A1 := A1.ext hb1
  have E := ext_trans E hb1
  obtain ⟨rc0, rz0⟩ := (A0).rules; have rl0 := (A0).lt
  obtain ⟨rc1, rz1⟩ := (A1).rules; have rl1 := (A1).lt
  go_wp2_with fail
  refine (laws_eqPlanS0 _).mono ?_
  rintro e w2 ⟨rfl, hb2⟩
  go_wp2_with fail
  go_ret
  exact ⟨rfl, ext_trans E hb2⟩
theorem grown_after {w w1 w2 : World} {row : Option Nat} (h : Below w.heap.size w w1) (h2 : w1.grownBy w2 row) : w.grownBy w2 row :=
  ⟨h2.os.trans h.os, h2.tape.trans h.tape, h2.output.trans h.output, Nat.le_trans h.size h2.size, fun k hk hne => (h2.block k (Nat.lt_of_lt_of_le hk h.size) hne).trans (h.block k hk)⟩
set_option maxHeartbeats 1000000 in
theorem laws_markDesk0 (pts : Int) (v : Value) (l : List Bd) (base : Nat) (k : Int) (w : World) (hv : Bds w base v l) (h0 : 0 ≤ k) (h1 : k ≤ 1000000000) (hn : l.length ≤ 4000000) :
    Calls Try.prog 55 #[.agg #[.int .i64 pts, v, .slice none 0 0], .int .i64 k] w fun e w' => e = .returned (.int .i64 (k + 3 * l.length)) ∧ Bds w' base v (marks k l.length) ∧ w.grownBy w' v.ownBlock := by
  have Hv := Lib.hid hv
  obtain ⟨a, cap, rfl, hcap, hc, -⟩ := hv.open
  clear hv
  go_enter Try.func55, Try.ntmps55
  go_wp2_with fail
  obtain ⟨W, hW, A0, hs, E⟩ := one_box w #[.int .i64 pts, .slice a l.length cap, .slice none 0 0] 34
  rw [← hW.out]
  have lt := Hv.out.lt
  refine (laws_markPlan pts _ l base k _ (Hv.out.ext E) h0 h1 hn).mono ?_
  rintro e w1 ⟨rfl, hb1, hg1⟩
  have A0 := A0.grown hg1 (fun e => by have := lt _ e.symm; omega)
  have Hb := Lib.hid hb1; have Hg := Lib.hid hg1
  clear hb1 hg1
  obtain ⟨rc0, rz0⟩ := (A0).rules; have rl0 := (A0).lt
  go_wp2_with fail
  refine (laws_markPlanS0 _ _).mono ?_
  rintro e w2 ⟨rfl, rfl⟩
  go_wp2_with fail
  go_ret
  exact ⟨rfl, Hb.out, grown_after E Hg.out⟩
set_option maxHeartbeats 1000000 in
theorem laws_heldDesk0 (pts : Int) (v : Value) (n : Nat) (k : Int) (w : World) (hv : Bds w 0 v (marks k n)) (h0 : 0 ≤ k) (h1 : k ≤ 1000000000) (hn : n ≤ 4000000) :
    Calls Try.prog 56 #[.agg #[.int .i64 pts, v, .slice none 0 0], .int .i64 k] w fun e w' => e = .returned (.int .i64 (k + 3 * n)) ∧ Below w.heap.size w w' := by
  have Hv := Lib.hid hv
  obtain ⟨a, cap, rfl, hcap, hc, -⟩ := hv.open
  clear hv
  rw [marks_length] at *
  go_enter Try.func56, Try.ntmps56
  go_wp2_with fail
  obtain ⟨W, hW, A0, hs, E⟩ := one_box w #[.int .i64 pts, .slice a n cap, .slice none 0 0] 34
  rw [← hW.out]
  refine (laws_heldPlan pts _ n k _ (Hv.out.ext E) h0 h1 hn).mono ?_
  rintro e w1 ⟨rfl, hb1⟩
  have A0 := A0.ext hb1
  have E := ext_trans E hb1
  obtain ⟨rc0, rz0⟩ := (A0).rules; have rl0 := (A0).lt
  go_wp2_with fail
  refine (laws_heldPlanS0 _ _).mono ?_
  rintro e w2 ⟨rfl, rfl⟩
  go_wp2_with fail
  go_ret
  exact ⟨rfl, E⟩
end Go.Proofs.Ytcjdodjjdchnaaa
