/- Plain facts on the plan that a closed table makes. Conditions as each lemma names them. -/
import Derived.Test.YtpccfkbpnfbdaaaPlanTab
import Derived.Test.YtpccfkbpnfbdaaaImplies
import Derived.Test.YtpccfkbpnfbdaaaTight
namespace Go.Proofs.Ytpccfkbpnfbdaaa
open Go.RowKit
set_option linter.unusedVariables false
set_option linter.unusedSimpArgs false
theorem tbRow_mem {D : Tbl} {f : Nat} {b : Bd} : ∀ {t : Nat}, b ∈ tbRow D f t ↔ ∃ j, j < t ∧ f ≠ j ∧ D f j ≠ 100000 ∧ b = ⟨f, j, D f j⟩
  | 0 => by simp [tbRow]
  | t+1 => by
    simp only [tbRow, List.mem_append, tbRow_mem (t := t)]
    constructor
    · rintro (⟨j, h1, h2⟩ | h)
      · exact ⟨j, by omega, h2⟩
      · split at h
        · rename_i hc; exact ⟨t, by omega, hc.1, hc.2, by simpa using h⟩
        · cases h
    · rintro ⟨j, h1, h2, h3, h4⟩
      by_cases e : j = t
      · subst e; right; rw [if_pos ⟨h2, h3⟩]; simp [h4]
      · left; exact ⟨j, by omega, h2, h3, h4⟩
theorem tbAll_mem {D : Tbl} {n : Nat} {b : Bd} : ∀ {f : Nat}, b ∈ tbAll D n f ↔ ∃ i j, i < f ∧ j < n ∧ i ≠ j ∧ D i j ≠ 100000 ∧ b = ⟨i, j, D i j⟩
  | 0 => by simp [tbAll]
  | f+1 => by
    simp only [tbAll, List.mem_append, tbAll_mem (f := f), tbRow_mem]
    constructor
    · rintro (⟨i, j, h1, h2⟩ | ⟨j, h1, h2⟩)
      · exact ⟨i, j, by omega, h2⟩
      · exact ⟨f, j, by omega, h1, h2⟩
    · rintro ⟨i, j, h1, h2, h3, h4, h5⟩
      by_cases e : i = f
      · subst e; right; exact ⟨j, h2, h3, h4, h5⟩
      · left; exact ⟨i, j, by omega, h2, h3, h4, h5⟩
theorem tbRow_congr {D E : Tbl} {f n : Nat} (h : ∀ j, j < n → D f j = E f j) : ∀ t, t ≤ n → tbRow D f t = tbRow E f t
  | 0, _ => rfl
  | t+1, ht => by simp only [tbRow, tbRow_congr h t (by omega), h t (by omega)]
theorem tbAll_congr {D E : Tbl} {n : Nat} (h : ∀ i j, i < n → j < n → D i j = E i j) : ∀ f, f ≤ n → tbAll D n f = tbAll E n f
  | 0, _ => rfl
  | f+1, hf => by simp only [tbAll, tbAll_congr h f (by omega), tbRow_congr (fun j hj => h f j (by omega) hj) n (Nat.le_refl _)]
theorem ofTab_n (n : Nat) (D : Tbl) : (Pl.ofTab n D).n = n := rfl
theorem ofTab_tab {n : Nat} {D : Tbl} (h0 : ∀ i, i < n → D i i = 0) (hfar : ∀ i j, i < n → j < n → D i j ≤ 100000) {i j : Nat} (hi : i < n) (hj : j < n) : (Pl.ofTab n D).tab i j = D i j := by
  have key : ∀ x, x ≤ tab0 (tbAll D n n) i j ↔ x ≤ D i j := fun x => by
    rw [le_tab0]
    constructor
    · rintro ⟨h1, h2⟩
      by_cases e : i = j
      · subst e; rw [if_pos rfl] at h1; rw [h0 i hi]; exact h1
      · rw [if_neg e] at h1
        by_cases ef : D i j = 100000
        · omega
        · exact h2 ⟨i, j, D i j⟩ (tbAll_mem.2 ⟨i, j, hi, hj, e, ef, rfl⟩) rfl rfl
    · intro h
      refine ⟨?_, fun b hb hf ht => ?_⟩
      · split
        · rename_i e; subst e; have := h0 i hi; omega
        · have := hfar i j hi hj; omega
      · obtain ⟨i', j', h1, h2, h3, h4, rfl⟩ := tbAll_mem.1 hb
        dsimp only at hf ht ⊢
        have e1 : i' = i := by omega
        have e2 : j' = j := by omega
        subst e1; subst e2; exact h
  have a := (key (tab0 (tbAll D n n) i j)).1 (Int.le_refl _)
  have b := (key (D i j)).2 (Int.le_refl _)
  show tab0 (tbAll D n n) i j = D i j
  omega
theorem clo_closed2 {p : Pl} (h : p.fits = true) : Closed p.clo p.n := by
  obtain ⟨q1, q2, q3, q4, q5⟩ := plok_in (fits_ok h).1
  exact closed_of (tab_nosat q3 q5) (fits_ok h).2
theorem tbl_parts {p : Pl} (h : p.tblOk = true) : p.fits = true ∧ p.pts ≤ 4 ∧ (Pl.ofTab p.n p.clo).ok = true ∧ p.tbl = Pl.ofTab p.n p.clo := by
  have e : p.tbl = Pl.ofTab p.n p.clo := if_pos h
  simp only [Pl.tblOk, Bool.and_eq_true, decide_eq_true_eq] at h
  exact ⟨h.1.1, h.1.2, h.2, e⟩
theorem tbl_no {p : Pl} (h : p.tblOk = false) : p.tbl = Pl.zero := if_neg (by simp [h])
theorem tbl_clo {p : Pl} (h : p.tblOk = true) : p.tbl.ok = true ∧ p.tbl.pts = p.pts ∧ p.tbl.n = p.n ∧ p.tbl.fits = true ∧ (∀ i j, i < p.n → j < p.n → p.tbl.tab i j = p.clo i j) ∧ (∀ i j, i < p.n → j < p.n → p.tbl.clo i j = p.clo i j) := by
  obtain ⟨h1, h2, h3, h4⟩ := tbl_parts h
  rw [h4]
  have hp := (plok_in (fits_ok h1).1).1
  have h0 : ∀ i, i < p.n → p.clo i i = 0 := diag_zero (fun i _ => tab0_diag p.bs i) (fits_ok h1).2
  have hfar : ∀ i j, i < p.n → j < p.n → p.clo i j ≤ 100000 := fun i j _ _ => Int.le_trans (upT_le _ _ _ _) (tab0_le p.bs i j)
  have ht : ∀ i j, i < p.n → j < p.n → (Pl.ofTab p.n p.clo).tab i j = p.clo i j := fun i j hi hj => ofTab_tab h0 hfar hi hj
  have hc : ∀ i j, i < p.n → j < p.n → (Pl.ofTab p.n p.clo).clo i j = p.clo i j := fun i j hi hj => by
    show upT (Pl.ofTab p.n p.clo).tab p.n i j = _
    rw [upT_congr ht p.n (Nat.le_refl _) i j hi hj, closed_stays (clo_closed2 h1) p.n (Nat.le_refl _) i j hi hj]
  refine ⟨h3, hp.symm, rfl, fits_mk h3 fun i hi => ?_, ht, hc⟩
  have : (Pl.ofTab p.n p.clo).clo i i = p.clo i i := hc i i hi hi
  show 0 ≤ (Pl.ofTab p.n p.clo).clo i i
  rw [this, h0 i hi]
  omega
theorem tbl_alike {p : Pl} (h : p.tblOk = true) : p.tbl.alike p = true := by
  obtain ⟨a1, a2, a3, a4, a5, a6⟩ := tbl_clo h
  have hok := (fits_ok (tbl_parts h).1).1
  have hf := (tbl_parts h).1
  simp only [Pl.alike, Pl.implies, a1, a2, a4, hok, hf, Bool.true_and, decide_true, Bool.not_true, Bool.false_or, Bool.and_eq_true]
  refine ⟨leB_iff.2 fun i hi j hj => ?_, leB_iff.2 fun i hi j hj => ?_⟩
  · rw [a3] at hi hj
    rw [a6 i j hi hj]; exact upT_le _ _ _ _
  · rw [a5 i j hi hj]; exact Int.le_refl _
theorem tbl_again {p : Pl} (h : p.tblOk = true) : p.tbl.tblOk = true ∧ p.tbl.tbl = p.tbl := by
  obtain ⟨a1, a2, a3, a4, a5, a6⟩ := tbl_clo h
  obtain ⟨h1, h2, h3, h4⟩ := tbl_parts h
  have e : Pl.ofTab p.tbl.n p.tbl.clo = p.tbl := by
    rw [a3, h4]
    show (⟨p.n, tbAll (Pl.ofTab p.n p.clo).clo p.n p.n⟩ : Pl) = ⟨p.n, tbAll p.clo p.n p.n⟩
    have hcc : tbAll (Pl.ofTab p.n p.clo).clo p.n p.n = tbAll p.clo p.n p.n := tbAll_congr (fun i j hi hj => (congrArg (fun q : Pl => q.clo i j) h4).symm.trans (a6 i j hi hj)) p.n (Nat.le_refl _)
    rw [hcc]
  have ho : p.tbl.tblOk = true := by
    simp only [Pl.tblOk, e, a1, a4, a2, h2, decide_true, Bool.and_true, Bool.true_and]
  exact ⟨ho, (if_pos ho).trans e⟩
theorem tbl_tight {p : Pl} (h : p.tblOk = true) {k : Nat} (hk : k < p.tbl.bs.length) : p.tbl.tight (k : Int) = true := by
  obtain ⟨a1, a2, a3, a4, a5, a6⟩ := tbl_clo h
  obtain ⟨h1, h2, h3, h4⟩ := tbl_parts h
  have hm : p.tbl.bs.getD k Bd.z ∈ tbAll p.clo p.n p.n := by
    have : p.tbl.bs.getD k Bd.z ∈ p.tbl.bs := by rw [List.getD_eq_getElem?_getD, List.getElem?_eq_getElem hk]; exact List.getElem_mem hk
    rw [h4] at this ⊢
    exact this
  obtain ⟨i, j, hi, hj, _, _, e⟩ := tbAll_mem.1 hm
  have hin : inB (k : Int) 0 ((p.tbl.bs.length : Int) - 1) = true := (inB_iff _ _ _).2 (by omega)
  have hk2 : ((k : Int)).toNat = k := rfl
  simp only [Pl.tight, a4, hin, hk2, Pl.tightAt, Bool.true_and]
  rw [e]
  show (p.tbl.clo i j == p.clo i j) = true
  rw [a6 i j hi hj]
  simp
end Go.Proofs.Ytpccfkbpnfbdaaa
