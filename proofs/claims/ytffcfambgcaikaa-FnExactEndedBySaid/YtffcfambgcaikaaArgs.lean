/- How the arguments of the exact laws read as data: a plan that came in as its number of points and its bounds. No condition. -/
import Derived.Test.YtffcfambgcaikaaLawPlan
import Derived.Test.YtffcfambgcaikaaRows
import Derived.ProofKit
import Derived.OpenShut
import Derived.ShutString
import Derived.ChangeOld
import Derived.Deep.Slices
import Derived.Deep.Strs
import Derived.Lib.SmallJoins
namespace Go.Proofs.Ytffcfambgcaikaa
open Go.RowKit Go.ChangeShapes Go.WideShapes Go.ChangeAt
set_option linter.unusedVariables false
set_option linter.unusedSimpArgs false
theorem own : ownKnob Try.prog.godebug = none := by kernel_rfl
theorem laidOut : laidOutB Try.prog = true := by kernel_rfl
theorem cells_at {w : World} {base : Nat} {a : Addr} {n : Nat} {cs : List Value} (h : w.cells? base a n = some cs) : cs.length = n ∧ ∀ i, i < n → w.cell? (a.add i) = cs[i]? := by
  unfold World.cells? at h
  split at h
  · have key : ∀ (l : List Nat) (cs : List Value), (l.mapM fun i => w.cell? (a.add i)) = some cs → cs.length = l.length ∧ ∀ i (hi : i < l.length), w.cell? (a.add l[i]) = cs[i]? := by
      intro l
      induction l with
      | nil => intro cs h; simp at h; subst h; simp
      | cons x l ih =>
        intro cs h
        rw [List.mapM_cons] at h
        cases hx : w.cell? (a.add x) with
        | none => rw [hx] at h; simp at h
        | some v =>
          rw [hx] at h
          cases hl : (l.mapM fun i => w.cell? (a.add i)) with
          | none => rw [hl] at h; simp at h
          | some cs' =>
            rw [hl] at h
            simp at h
            subst h
            obtain ⟨h1, h2⟩ := ih cs' hl
            refine ⟨by simp [h1], fun i hi => ?_⟩
            cases i with
            | zero => simpa using hx
            | succ i => simpa using h2 i (by simpa using hi)
    obtain ⟨h1, h2⟩ := key _ _ h
    refine ⟨by simpa using h1, fun i hi => ?_⟩
    have := h2 i (by simpa using hi)
    simpa using this
  · cases h
theorem list3 (l : List Value) (h : l.length = 3) : ∃ a b c, l = [a, b, c] := by
  match l, h with
  | [a, b, c], _ => exact ⟨a, b, c, rfl⟩
theorem addr_plain {w : World} {a : Addr} {v : Value} (h : w.cell? a = some v) : ∃ b o, a = ⟨b, o, none⟩ ∧ b < w.heap.size := by
  obtain ⟨b, o, s⟩ := a
  have hb := World.block_lt_of_cell? w _ h
  cases s with
  | none => exact ⟨b, o, rfl, hb⟩
  | some s => simp [World.cell?] at h; split at h <;> simp at h
theorem cellsLB : Try.prog.cellsOf 107 = 3 := by kernel_rfl
theorem cellsLP : Try.prog.cellsOf 49 = 2 := by kernel_rfl
theorem cellsI : Try.prog.cellsOf 3 = 1 := by kernel_rfl
theorem arg_bounds {H : Type} {enc : TypeId × Value → H} {W : World} {fuel : Nat} {v : Value} {x : DataW H × List MemPlace}
    (h : DataW.trod enc Try.prog W 0 (fun _ => true) true fuel 47 [v] = some x) : ∃ a n cap l, v = .slice a n cap ∧ ABds W a n cap l := by
  rcases Deep.open_slice Try.underlying47 h with ⟨hv, -⟩ | ⟨a, len, cap, m, f, D, Pl, hv, -, hl, hm, hmm, -, hel⟩
  · simp at hv
    subst hv
    exact ⟨none, 0, 0, [], rfl, rfl, Nat.le_refl _, by omega, fun j hj => by omega⟩
  · simp at hv
    subst hv
    unfold maxLen at hm
    have each : ∀ j, j < len → ∃ b : Bd, W.cell? (a.add (j * 3)) = some (.int .i64 b.f) ∧ W.cell? (a.add (j * 3 + 1)) = some (.int .i64 b.t) ∧ W.cell? (a.add (j * 3 + 2)) = some (.int .i64 b.m) := by
      intro j hj
      obtain ⟨cs, hcs, ht⟩ := hel j (by rw [hmm]; show j < (if true = true then cap else len); rw [if_pos rfl]; omega)
      rw [cellsLB] at hcs
      obtain ⟨h1, h2⟩ := cells_at hcs
      obtain ⟨y0, y1, y2, n', -, -, t0, t1, t2⟩ := Deep.trod_struct3 Try.underlying107 ht
      obtain ⟨c0, c1, c2, rfl⟩ := list3 cs h1
      obtain ⟨x0, e0, -⟩ := DataW.trod_int Try.underlying3 t0
      obtain ⟨x1, e1, -⟩ := DataW.trod_int Try.underlying3 t1
      obtain ⟨x2, e2, -⟩ := DataW.trod_int Try.underlying3 t2
      rw [cellsI] at e0 e1 e2
      simp at e0 e1 e2
      subst e0 e1 e2
      have g0 := h2 0 (by decide); have g1 := h2 1 (by decide); have g2 := h2 2 (by decide)
      rw [Deep.add_add] at g0 g1 g2
      exact ⟨⟨x0, x1, x2⟩, by simpa using g0, by simpa using g1, by simpa using g2⟩
    obtain ⟨f, hf⟩ := Deep.choose_lt (α := Bd) each
    refine ⟨some a, len, cap, (List.range len).map f, rfl, by simp, hl, hm, fun j hj => ?_⟩
    obtain ⟨k0, -, -⟩ := hf 0 (by omega)
    obtain ⟨b, o, rfl, hb⟩ := addr_plain (by simpa using k0)
    obtain ⟨k0, k1, k2⟩ := hf j hj
    rw [add_plain] at k0 k1 k2
    have e : ((List.range len).map f).getD j Bd.z = f j := by simp [List.getD_eq_getElem?_getD, hj]
    rw [e]
    exact ⟨b, o, rfl, hb, k0, by simpa [Nat.add_assoc] using k1, by simpa [Nat.add_assoc] using k2⟩
set_option maxRecDepth 100000 in
theorem arg_plan {H : Type} {enc : TypeId × Value → H} {W : World} {base : Nat} {r : Reach} {v : Value} {d : DataW H} {p : List MemPlace}
    (hv : Value.okWide Try.prog W r base 49 v) (h : DataW.Trod enc Try.prog W 0 (fun _ => true) true 49 v d p) :
    ∃ pts a n cap l, v = .agg #[.int .i64 pts, .slice a n cap] ∧ ABds W a n cap l := by
  obtain ⟨v0, v1, y0, y1, n, rfl, -, -, t0, t1⟩ := Joins.open_agg2 Try.underlying49 (by kernel_rfl) cellsLP hv h
  obtain ⟨pts, e0, -⟩ := DataW.trod_int Try.underlying3 t0
  obtain ⟨a, n, cap, l, rfl, hl⟩ := arg_bounds t1
  simp at e0
  subst e0
  exact ⟨pts, a, n, cap, l, rfl, hl⟩
set_option maxRecDepth 100000 in
theorem arg_bound {H : Type} {enc : TypeId × Value → H} {W : World} {base : Nat} {r : Reach} {v : Value} {d : DataW H} {p : List MemPlace}
    (hv : Value.okWide Try.prog W r base 107 v) (h : DataW.Trod enc Try.prog W 0 (fun _ => true) true 107 v d p) :
    ∃ b : Bd, v = .agg #[.int .i64 b.f, .int .i64 b.t, .int .i64 b.m] := by
  obtain ⟨v0, v1, v2, y0, y1, y2, n, rfl, -, -, t0, t1, t2⟩ := Joins.open_agg3 Try.underlying107 (by kernel_rfl) cellsLB hv h
  obtain ⟨x0, e0, -⟩ := DataW.trod_int Try.underlying3 t0
  obtain ⟨x1, e1, -⟩ := DataW.trod_int Try.underlying3 t1
  obtain ⟨x2, e2, -⟩ := DataW.trod_int Try.underlying3 t2
  simp at e0 e1 e2
  subst e0 e1 e2
  exact ⟨⟨x0, x1, x2⟩, rfl⟩
end Go.Proofs.Ytffcfambgcaikaa
