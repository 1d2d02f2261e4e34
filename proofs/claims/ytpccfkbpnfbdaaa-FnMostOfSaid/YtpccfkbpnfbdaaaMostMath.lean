/- Plain facts on the most that is said of two points. Conditions as each lemma names them. -/
import Derived.Test.YtpccfkbpnfbdaaaMost
import Derived.Test.YtpccfkbpnfbdaaaPlanWith
namespace Go.Proofs.Ytpccfkbpnfbdaaa
open Go.RowKit
set_option linter.unusedVariables false
set_option linter.unusedSimpArgs false
theorem plus_tab (p : Pl) (f t : Nat) (m : Int) (i j : Nat) : (p.plus [⟨f, t, m⟩]).tab i j = withB p.tab f t m i j := by
  show tab0 (p.bs ++ [⟨f, t, m⟩]) i j = _
  rw [tab0_snoc]
  unfold withB
  by_cases h : i = f ∧ j = t
  · obtain ⟨rfl, rfl⟩ := h
    rw [if_pos ⟨rfl, rfl⟩, if_pos ⟨rfl, rfl⟩]; rfl
  · rw [if_neg h, if_neg (by rintro ⟨h1, h2⟩; dsimp only at h1 h2; exact h ⟨by omega, by omega⟩)]; rfl
theorem most_parts {p : Pl} {fi ti : Int} (h : p.mostOk fi ti = true) : ∃ f t : Nat, fi = f ∧ ti = t ∧ f < p.n ∧ t < p.n ∧ p.fits = true ∧ p.clo f t < 100000 ∧ p.most fi ti = p.clo f t := by
  have hm := most_far h
  simp only [Pl.mostOk, Bool.and_eq_true, inB_iff, decide_eq_true_eq] at h
  obtain ⟨h1, h2, h3, h4⟩ := h
  have hp := (plok_in (fits_ok h1).1).1
  obtain ⟨f, rfl⟩ := Int.eq_ofNat_of_zero_le h2.1
  obtain ⟨t, rfl⟩ := Int.eq_ofNat_of_zero_le h3.1
  have hle : p.clo f t ≤ 100000 := Int.le_trans (upT_le _ _ _ _) (tab0_le p.bs f t)
  have h4 : p.clo f t ≠ 100000 := h4
  exact ⟨f, t, rfl, rfl, by omega, by omega, h1, by omega, hm⟩
theorem most_back {p : Pl} {f t : Nat} (hf : f < p.n) (ht : t < p.n) (hfit : p.fits = true) : p.mostOk (t : Int) (f : Int) = decide (p.clo t f ≠ 100000) := by
  have hp := (plok_in (fits_ok hfit).1).1
  have h1 : inB (t : Int) 0 (p.pts - 1) = true := (inB_iff _ _ _).2 (by omega)
  have h2 : inB (f : Int) 0 (p.pts - 1) = true := (inB_iff _ _ _).2 (by omega)
  unfold Pl.mostOk
  rw [hfit, h1, h2]; rfl
theorem most_in (p : Pl) (fi ti : Int) : -6336 ≤ p.most fi ti ∧ p.most fi ti ≤ 100000 := by
  cases hm : p.mostOk fi ti
  · rw [most_no hm]; omega
  · obtain ⟨f, t, rfl, rfl, hf, ht, hfit, hc, he⟩ := most_parts hm
    rw [he]
    exact clo_in (fits_ok hfit).1 p.n (Nat.le_refl _) _ _ hf ht
theorem clo_closed {p : Pl} (h : p.fits = true) : Closed p.clo p.n := by
  obtain ⟨q1, q2, q3, q4, q5⟩ := plok_in (fits_ok h).1
  exact closed_of (tab_nosat q3 q5) (fits_ok h).2
theorem clo_fits {p : Pl} (h : p.fits = true) : Fits p.clo p.n := fun i hi => by
  rw [closed_stays (clo_closed h) p.n (Nat.le_refl _) i i hi hi]
  exact (fits_ok h).2 i hi
theorem most_same {p : Pl} {fi ti : Int} (h : p.mostOk fi ti = true) (ho : (p.plus [⟨fi, ti, p.most fi ti⟩]).ok = true) :
    (p.plus [⟨fi, ti, p.most fi ti⟩]).fits = true ∧ ∀ i j, i < p.n → j < p.n → p.clo i j = (p.plus [⟨fi, ti, p.most fi ti⟩]).clo i j := by
  obtain ⟨f, t, rfl, rfl, hf, ht, hfit, hc, he⟩ := most_parts h
  rw [he] at ho ⊢
  have hle : ∀ i j, i < p.n → j < p.n → p.clo i j ≤ (p.plus [⟨f, t, p.clo f t⟩]).tab i j := fun i j hi hj => by
    rw [plus_tab]
    have : p.clo i j ≤ p.tab i j := upT_le _ _ _ _
    unfold withB
    split
    · rename_i e; obtain ⟨rfl, rfl⟩ := e; omega
    · exact this
  refine ⟨fits_mk ho (fits_less hle (clo_fits hfit)), fun i j hi hj => ?_⟩
  have h1 := upT_less (D := (p.plus [⟨f, t, p.clo f t⟩]).tab) (E := p.tab) (n := p.n) (fun i j _ _ => by rw [plus_tab]; exact withB_le _ _ _ _ _ _) p.n (Nat.le_refl _) i j hi hj
  have h2 := upT_less hle p.n (Nat.le_refl _) i j hi hj
  rw [closed_stays (clo_closed hfit) p.n (Nat.le_refl _) i j hi hj] at h2
  exact Int.le_antisymm h2 h1
theorem most_less {p : Pl} {fi ti : Int} (h : p.mostOk fi ti = true) (ho : (p.plus [⟨fi, ti, p.most fi ti - 1⟩]).ok = true) :
    (p.plus [⟨fi, ti, p.most fi ti - 1⟩]).fits = (!p.mostOk ti fi || decide (-p.most ti fi < p.most fi ti)) := by
  obtain ⟨f, t, rfl, rfl, hf, ht, hfit, hc, he⟩ := most_parts h
  rw [he] at ho ⊢
  have hk : p.clo t f ≤ 100000 := Int.le_trans (upT_le _ _ _ _) (tab0_le p.bs t f)
  have key : (p.plus [⟨f, t, p.clo f t - 1⟩]).fits = true ↔ (p.clo t f < 100000 → 0 ≤ p.clo t f + (p.clo f t - 1)) := by
    constructor
    · intro hq hlt
      have hc2 := clo_closed hq
      have h1 := upT_less (D := (p.plus [⟨f, t, p.clo f t - 1⟩]).tab) (E := p.tab) (n := p.n) (fun i j _ _ => by rw [plus_tab]; exact withB_le _ _ _ _ _ _) p.n (Nat.le_refl _) t f ht hf
      have h1 : (p.plus [⟨f, t, p.clo f t - 1⟩]).clo t f ≤ p.clo t f := h1
      have h2 : (p.plus [⟨f, t, p.clo f t - 1⟩]).clo f t ≤ (p.plus [⟨f, t, p.clo f t - 1⟩]).tab f t := upT_le _ _ _ _
      rw [plus_tab] at h2
      have h3 : withB p.tab f t (p.clo f t - 1) f t ≤ p.clo f t - 1 := by unfold withB; rw [if_pos ⟨rfl, rfl⟩]; omega
      have h4 := hc2 f hf t t ht ht (by omega) (by omega)
      have h5 : 0 ≤ (p.plus [⟨f, t, p.clo f t - 1⟩]).clo t t := (fits_ok hq).2 t ht
      omega
    · intro hv
      have h0 : ∀ i, i < p.n → p.clo i i = 0 := diag_zero (fun i _ => tab0_diag p.bs i) (fits_ok hfit).2
      refine fits_mk ho (fits_less (fun i j hi hj => ?_) (fits_with (clo_closed hfit) h0 hf ht hv (by omega)))
      rw [plus_tab]
      have : p.clo i j ≤ p.tab i j := upT_le _ _ _ _
      unfold withB
      split <;> omega
  rw [most_back hf ht hfit, Bool.eq_iff_iff, key]
  by_cases hE : p.clo t f = 100000
  · simp [hE]
  · have hm : p.most (t : Int) (f : Int) = p.clo t f := most_far (by rw [most_back hf ht hfit]; simp [hE])
    rw [hm]
    simp [hE]
    omega
end Go.Proofs.Ytpccfkbpnfbdaaa
