/- The walks of spec.WithBound, spec.SetTo and spec.BothPlans: they return what the functions of impl do. Conditions: the bounds can be read, and are at most 1.9 million. -/
import Derived.Test.YtllicgomlohffaaPlanWith
import Derived.Test.YtllicgomlohffaaPlanTurn
import Derived.Deep.DeepCutAuto
namespace Go.Proofs.Ytllicgomlohffaa
open Go.RowKit
set_option linter.unusedVariables false
set_option linter.unusedSimpArgs false
theorem own_not_box {w : World} {base : Nat} {v : Value} {n : Nat} {xs : List Value} (h : w.ownsRow base 61 3 v n xs) {g : Nat} {ys : Array Value} (hb : Box w g 44 ys) : some g ≠ v.ownBlock := by
  intro e
  rcases h.2 with ⟨rfl, _⟩ | ⟨g', cap, cur, rfl, hg, hh, _⟩
  · cases e
  · simp only [Value.ownBlock, Option.some.injEq] at e
    subst e
    unfold Box at hb
    rw [hh] at hb
    simp at hb
def OutPlan (w1 : World) (p : Pl) (v6 : Value) (wx : World) : Prop :=
  ∃ go v, v6 = .pointer (some ⟨go, 0, none⟩) ∧ Box wx go 44 #[.int .i64 p.pts, v] ∧ Bds wx w1.heap.size v p.bs ∧ w1.heap.size ≤ go ∧ Below w1.heap.size w1 wx
def OutPlanB (w1 : World) (p : Pl) (b : Bool) (v6 v7 : Value) (wx : World) : Prop :=
  ∃ go v, v6 = .pointer (some ⟨go, 0, none⟩) ∧ v7 = .bool b ∧ Box wx go 44 #[.int .i64 p.pts, v] ∧ Bds wx w1.heap.size v p.bs ∧ w1.heap.size ≤ go ∧ Below w1.heap.size w1 wx
theorem out_done {w1 w : World} {go n cap : Nat} {a : Option Addr} {p : Pl} {x y : Value} (ho : Box w go 44 #[x, y]) (hv : w.ownsRow w1.heap.size 61 3 (.slice a n cap) n (bcells p.bs)) (hg : w1.heap.size ≤ go) (hb : Below w1.heap.size w1 w) :
    OutPlan w1 p (.pointer (some ⟨go, 0, none⟩)) ((w.setCell ⟨go, 0, none⟩ (.int .i64 p.pts)).setCell ⟨go, 1, none⟩ (.slice a n cap)) := by
  have hn : n = p.bs.length := by
    have := hv.1
    rw [bcells_length] at this
    omega
  subst hn
  have hne := own_not_box hv ho
  refine ⟨go, _, rfl, (ho.set 0 _).set 1 _, ?_, hg, ext_set (ext_set hb hg _) hg _⟩
  exact own_far hv (grown_set (grown_set (World.grownBy.refl w _) _) _) (fun k hk e => hne (by rw [hk]; exact e))
end Go.Proofs.Ytllicgomlohffaa
