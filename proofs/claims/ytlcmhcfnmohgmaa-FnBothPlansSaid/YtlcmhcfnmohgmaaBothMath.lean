/- Plain facts on two plans at once. Conditions as each lemma names them. -/
import Derived.Test.YtlcmhcfnmohgmaaImplies
import Derived.Test.YtlcmhcfnmohgmaaPlanWith
import Derived.Test.YtlcmhcfnmohgmaaPlanTimes
namespace Go.Proofs.Ytlcmhcfnmohgmaa
open Go.RowKit
set_option linter.unusedVariables false
set_option linter.unusedSimpArgs false
theorem tab_sub {bs bs' : List Bd} (h : ∀ b ∈ bs', b ∈ bs) (i j : Nat) : tab0 bs i j ≤ tab0 bs' i j :=
  le_tab0.2 ⟨(le_tab0.1 (Int.le_refl _)).1, fun b hb hf ht => (le_tab0.1 (Int.le_refl (tab0 bs i j))).2 b (h b hb) hf ht⟩
theorem both_no {p q : Pl} (h : p.bothOk q = false) : p.both q = Pl.zero := if_neg (by simp [h])
theorem both_parts {p q : Pl} (h : p.bothOk q = true) : p.ok = true ∧ q.ok = true ∧ p.pts = q.pts ∧ (p.plus q.bs).ok = true ∧ p.both q = p.plus q.bs := by
  have e : p.both q = p.plus q.bs := if_pos h
  simp only [Pl.bothOk, Bool.and_eq_true, decide_eq_true_eq] at h
  exact ⟨h.1, h.2.1, h.2.2.1, h.2.2.2, e⟩
theorem sub_implies {x p : Pl} (hx : x.ok = true) (hp : p.ok = true) (hpts : x.pts = p.pts) (h : ∀ b ∈ p.bs, b ∈ x.bs) : x.implies p = true := by
  simp only [Pl.implies, hx, hp, hpts, Bool.true_and, decide_true]
  cases hf : x.fits
  · rfl
  · simp only [Bool.not_true, Bool.false_or]
    exact leB_iff.2 fun i hi j hj => Int.le_trans (upT_le _ _ _ _) (tab_sub h i j)
theorem both_swap {p q : Pl} (h : p.bothOk q = true) : q.bothOk p = true := by
  obtain ⟨h1, h2, h3, h4, -⟩ := both_parts h
  have h5 : (q.plus p.bs).ok = true := by
    simp only [Pl.ok, Pl.plus, Bool.and_eq_true, decide_eq_true_eq, List.all_append, List.length_append] at h4 ⊢
    rw [← h3]
    exact ⟨h4.1, by omega, h4.2.2.2, h4.2.2.1⟩
  simp only [Pl.bothOk, h1, h2, h5, h3.symm, Bool.true_and, Bool.and_true, decide_true]
theorem both_good {p q : Pl} (h : p.bothOk q = true) : (p.both q).implies p = true ∧ (p.both q).implies q = true ∧ (q.both p).alike (p.both q) = true := by
  obtain ⟨h1, h2, h3, h4, h5⟩ := both_parts h
  obtain ⟨g1, g2, g3, g4, g5⟩ := both_parts (both_swap h)
  rw [h5, g5]
  have m : ∀ b, b ∈ p.bs ++ q.bs ↔ b ∈ q.bs ++ p.bs := fun b => by simp only [List.mem_append]; exact Or.comm
  refine ⟨sub_implies h4 h1 rfl fun b hb => List.mem_append_left _ hb, sub_implies h4 h2 h3 fun b hb => List.mem_append_right _ hb, ?_⟩
  unfold Pl.alike
  rw [sub_implies g4 h4 h3.symm fun b hb => (m b).1 hb, sub_implies h4 g4 h3 fun b hb => (m b).2 hb]
  rfl
theorem both_keeps {p q : Pl} (h : p.bothOk q = true) (l : List Int) : keeps (p.both q) l = (keeps p l && keeps q l) := by
  obtain ⟨h1, h2, h3, h4, h5⟩ := both_parts h
  rw [h5, Bool.eq_iff_iff]
  simp only [keeps, timesOk, h1, h2, h4, ← h3, Bool.and_eq_true, decide_eq_true_eq, Bool.true_and]
  simp only [Pl.plus, List.all_append, Bool.and_eq_true]
  constructor
  · rintro ⟨⟨x, y⟩, z, u⟩; exact ⟨⟨⟨x, y⟩, z⟩, ⟨x, y⟩, u⟩
  · rintro ⟨⟨⟨x, y⟩, z⟩, -, u⟩; exact ⟨⟨x, y⟩, z, u⟩
theorem both_len (p q : Pl) : (p.both q).bs.length ≤ p.bs.length + q.bs.length := by
  unfold Pl.both
  split
  · simp [Pl.plus]
  · simp [Pl.zero]
end Go.Proofs.Ytlcmhcfnmohgmaa
