/- How a desk of the exact laws reads as data. No condition. -/
import Derived.Test.YtcjdodjjdchnaaaArgs
import Derived.Test.YtcjdodjjdchnaaaEDeskOk
namespace Go.Proofs.Ytcjdodjjdchnaaa
open Go.RowKit Go.ChangeShapes Go.WideShapes Go.ChangeAt
set_option linter.unusedVariables false
set_option linter.unusedSimpArgs false
theorem list2v (l : List Value) (h : l.length = 2) : ∃ a b, l = [a, b] := by
  match l, h with
  | [a, b], _ => exact ⟨a, b, rfl⟩
theorem cellsDk : Try.prog.cellsOf 59 = 3 := by kernel_rfl
instance : Inhabited LPl := ⟨LPl.z⟩
set_option maxRecDepth 100000 in
theorem arg_plans {H : Type} {enc : TypeId × Value → H} {W : World} {fuel : Nat} {v : Value} {x : DataW H × List MemPlace}
    (h : DataW.trod enc Try.prog W 0 (fun _ => true) true fuel 57 [v] = some x) : ∃ a n cap L, v = .slice a n cap ∧ APls W a n cap L := by
  rcases Deep.open_slice Try.underlying57 h with ⟨hv, -⟩ | ⟨a, len, cap, m, f, D, Pl, hv, -, hl, hm, hmm, -, hel⟩
  · simp at hv
    subst hv
    exact ⟨none, 0, 0, [], rfl, rfl, Nat.le_refl _, by omega, fun j hj => by omega⟩
  · simp at hv
    subst hv
    unfold maxLen at hm
    have each : ∀ j, j < len → ∃ b : LPl, W.cell? (a.add (j * 2)) = some (.int .i64 b.pts) ∧ W.cell? (a.add (j * 2 + 1)) = some (.slice b.a b.n b.cap) ∧ ABds W b.a b.n b.cap b.l := by
      intro j hj
      obtain ⟨cs, hcs, ht⟩ := hel j (by rw [hmm]; show j < (if true = true then cap else len); rw [if_pos rfl]; omega)
      rw [cellsLP] at hcs
      obtain ⟨h1, h2⟩ := cells_at hcs
      obtain ⟨y0, y1, n', -, -, t0, t1⟩ := trod_struct2 Try.underlying50 ht
      obtain ⟨c0, c1, rfl⟩ := list2v cs h1
      obtain ⟨x0, e0, -⟩ := DataW.trod_int Try.underlying3 t0
      rw [cellsI] at e0
      simp at e0
      have t1' : DataW.trod enc Try.prog W 0 (fun _ => true) true n' 48 [c1] = some y1 := t1
      obtain ⟨a1, n1, cap1, l1, rfl, hl1⟩ := arg_bounds t1'
      subst e0
      have g0 := h2 0 (by decide); have g1 := h2 1 (by decide)
      rw [Deep.add_add] at g0 g1
      exact ⟨⟨x0, a1, n1, cap1, l1⟩, by simpa using g0, by simpa using g1, hl1⟩
    obtain ⟨f, hf⟩ := Deep.choose_lt (α := LPl) each
    refine ⟨some a, len, cap, (List.range len).map f, rfl, by simp, hl, hm, fun j hj => ?_⟩
    obtain ⟨k0, -, -⟩ := hf 0 (by omega)
    obtain ⟨b, o, rfl, hb⟩ := addr_plain (by simpa using k0)
    obtain ⟨k0, k1, k2⟩ := hf j hj
    rw [add_plain] at k0 k1
    have e : ((List.range len).map f).getD j LPl.z = f j := by simp [List.getD_eq_getElem?_getD, hj]
    rw [e]
    exact ⟨b, o, rfl, hb, k0, by simpa [Nat.add_assoc] using k1, k2⟩
set_option maxRecDepth 100000 in
theorem arg_desk {H : Type} {enc : TypeId × Value → H} {W : World} {base : Nat} {r : Reach} {v : Value} {d : DataW H} {p : List MemPlace}
    (hv : Value.okWide Try.prog W r base 59 v) (h : DataW.Trod enc Try.prog W 0 (fun _ => true) true 59 v d p) :
    ∃ x : DkArg, v = .agg #[.int .i64 x.pts, .slice x.a x.n x.cap, .slice x.a' x.n' x.cap'] ∧ ADk W x := by
  obtain ⟨cs, rfl, hsz⟩ := okWide_struct Try.underlying59 hv
  rw [cellsDk] at hsz
  obtain ⟨c0, c1, c2, rfl⟩ := Joins.array3 hsz
  obtain ⟨fuel, hf⟩ := h
  obtain ⟨y0, y1, n, -, -, t0, t1⟩ := trod_struct2 Try.underlying59 hf
  have t0' : DataW.trod enc Try.prog W 0 (fun _ => true) true n 50 [c0, c1] = some y0 := t0
  have t1' : DataW.trod enc Try.prog W 0 (fun _ => true) true n 57 [c2] = some y1 := t1
  obtain ⟨z0, z1, n', -, -, s0, s1⟩ := trod_struct2 Try.underlying50 t0'
  obtain ⟨x0, e0, -⟩ := DataW.trod_int Try.underlying3 s0
  have s1' : DataW.trod enc Try.prog W 0 (fun _ => true) true n' 48 [c1] = some z1 := s1
  rw [cellsI] at e0
  simp at e0
  subst e0
  obtain ⟨a, n, cap, l, rfl, hl⟩ := arg_bounds s1'
  obtain ⟨a', n', cap', L, rfl, hL⟩ := arg_plans t1'
  exact ⟨⟨x0, a, n, cap, l, a', n', cap', L⟩, rfl, hl, hL⟩
end Go.Proofs.Ytcjdodjjdchnaaa
