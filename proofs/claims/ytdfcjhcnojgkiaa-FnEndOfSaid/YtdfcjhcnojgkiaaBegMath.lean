/- Plain facts on begins that are right. No program in sight. No condition but those each lemma names. -/
import Derived.Test.YtdfcjhcnojgkiaaBeginsS
namespace Go.Proofs.Ytdfcjhcnojgkiaa
open Go.RowKit
set_option linter.unusedVariables false
set_option linter.unusedSimpArgs false
theorem top_of {P : Nat → Prop} [DecidablePred P] (f : Nat → Int) : ∀ n, (∃ i, i < n ∧ P i) → ∃ j, j < n ∧ P j ∧ ∀ i, i < n → P i → f i ≤ f j
  | 0, ⟨i, hi, _⟩ => by omega
  | n+1, ⟨i, hi, hp⟩ => by
    by_cases h : ∃ i, i < n ∧ P i
    · obtain ⟨j, hj, hpj, hm⟩ := top_of f n h
      by_cases hn : P n ∧ f j < f n
      · refine ⟨n, by omega, hn.1, fun k hk hpk => ?_⟩
        by_cases hkn : k = n
        · subst hkn; exact Int.le_refl _
        · have := hm k (by omega) hpk; omega
      · refine ⟨j, by omega, hpj, fun k hk hpk => ?_⟩
        by_cases hkn : k = n
        · subst hkn
          by_cases h2 : f j < f k
          · exact absurd ⟨hpk, h2⟩ hn
          · omega
        · exact hm k (by omega) hpk
    · have hin : i = n := by
        by_cases h2 : i = n
        · exact h2
        · exact absurd ⟨i, by omega, hp⟩ h
      subst hin
      refine ⟨i, by omega, hp, fun k hk hpk => ?_⟩
      by_cases hkn : k = i
      · subst hkn; exact Int.le_refl _
      · exact absurd ⟨k, by omega, hpk⟩ h
theorem busy_mono {b L : Nat → Int} {t t' : Int} : ∀ k, (∀ i, i < k → b i ≠ -1 ∧ b i ≤ t ∧ t < b i + L i → b i ≠ -1 ∧ b i ≤ t' ∧ t' < b i + L i) → busyTo b L t k ≤ busyTo b L t' k
  | 0, _ => Int.le_refl _
  | k+1, h => by
    have ih := busy_mono k (fun i hi => h i (by omega))
    have hk := h k (by omega)
    unfold busyTo
    split <;> split
    · omega
    · rename_i h1 h2; exact absurd (hk h1) h2
    · omega
    · omega
theorem busy_zero {b L : Nat → Int} {t : Int} : ∀ k, (∀ i, i < k → ¬ (b i ≠ -1 ∧ b i ≤ t ∧ t < b i + L i)) → busyTo b L t k = 0
  | 0, _ => rfl
  | k+1, h => by
    unfold busyTo
    rw [if_neg (h k (by omega)), busy_zero k (fun i hi => h i (by omega))]
theorem beginOk_in {p : Pj} {h : Int} {l : List Int} {i : Nat} (hb : p.beginOk h l i = true) : p.afterOk l i = true ∧ busyTo (lF l) p.L (lF l i) p.lo.length ≤ h := by
  simp only [Pj.beginOk, Bool.and_eq_true, decide_eq_true_eq] at hb
  exact hb
/-- never more are being done than at some begin -/
theorem busy_peak {p : Pj} {h : Int} {l : List Int} (hb : p.beginsOk h l = true) (t : Int) : busyTo (lF l) p.L t p.lo.length ≤ h := by
  obtain ⟨hf, hh, hall⟩ := begins_iff.1 hb
  by_cases hex : ∃ i, i < p.lo.length ∧ (lF l i ≠ -1 ∧ lF l i ≤ t ∧ t < lF l i + p.L i)
  · obtain ⟨j, hj, hpj, hm⟩ := top_of (P := fun i => lF l i ≠ -1 ∧ lF l i ≤ t ∧ t < lF l i + p.L i) (lF l) p.lo.length hex
    have h1 := (beginOk_in (hall j hj)).2
    refine Int.le_trans (busy_mono _ fun i hi hp => ?_) h1
    have := hm i hi hp
    exact ⟨hp.1, this, by omega⟩
  · rw [busy_zero _ fun i hi hp => hex ⟨i, hi, hp⟩]
    omega
theorem begins_more {p : Pj} {h : Int} {l : List Int} (hb : p.beginsOk h l = true) (h3 : h < 3) : p.beginsOk (h+1) l = true := by
  obtain ⟨hf, hh, hall⟩ := begins_iff.1 hb
  refine begins_iff.2 ⟨hf, by omega, fun i hi => ?_⟩
  have := beginOk_in (hall i hi)
  simp only [Pj.beginOk, Bool.and_eq_true, decide_eq_true_eq]
  exact ⟨this.1, by omega⟩
/-- all begins a little later -/
def later (l : List Int) : List Int := l.map (· + 1)
theorem later_at {l : List Int} {j : Nat} (hj : j < l.length) : lF (later l) j = lF l j + 1 := by
  unfold lF later
  rw [List.getD_eq_getElem?_getD, List.getD_eq_getElem?_getD, List.getElem?_map, List.getElem?_eq_getElem hj]
  rfl
theorem later_busy {l : List Int} {L : Nat → Int} {t : Int} : ∀ k, k ≤ l.length → (∀ j, j < k → 0 ≤ lF l j) → busyTo (lF (later l)) L (t+1) k = busyTo (lF l) L t k
  | 0, _, _ => rfl
  | k+1, hk, h0 => by
    have ih := later_busy (L := L) (t := t) k (by omega) (fun j hj => h0 j (by omega))
    have := h0 k (by omega)
    unfold busyTo
    rw [ih, later_at (by omega)]
    by_cases hc : lF l k ≠ -1 ∧ lF l k ≤ t ∧ t < lF l k + L k
    · rw [if_pos hc, if_pos (by omega)]
    · rw [if_neg hc, if_neg (by omega)]
theorem later_same {p : Pj} {h : Int} {l : List Int} (hf : p.fit l = true) (hf2 : p.fit (later l) = true) : p.beginsOk h (later l) = p.beginsOk h l := by
  obtain ⟨hok, hl, hin⟩ := fit_in hf
  have hone : ∀ i, i < p.lo.length → p.beginOk h (later l) i = p.beginOk h l i := by
    intro i hi
    have ha : p.afterOk (later l) i = p.afterOk l i := by
      unfold Pj.afterOk
      rw [Bool.eq_iff_iff, List.all_eq_true, List.all_eq_true]
      constructor
      · intro H k hk
        have hki := List.mem_range.1 hk
        have := H k hk
        rw [later_at (by omega), later_at (by omega)] at this
        simp only [Bool.or_eq_true, Bool.not_eq_true', decide_eq_true_eq] at this ⊢
        rcases this with h1 | h1
        · exact .inl h1
        · exact .inr (by omega)
      · intro H k hk
        have hki := List.mem_range.1 hk
        have := H k hk
        rw [later_at (by omega), later_at (by omega)]
        simp only [Bool.or_eq_true, Bool.not_eq_true', decide_eq_true_eq] at this ⊢
        rcases this with h1 | h1
        · exact .inl h1
        · exact .inr (by omega)
    unfold Pj.beginOk
    rw [ha, later_at (by omega), later_busy _ (by omega) (fun j hj => (hin j (by omega)).1)]
  unfold Pj.beginsOk
  rw [hf, hf2]
  congr 1
  rw [Bool.eq_iff_iff, List.all_eq_true, List.all_eq_true]
  exact ⟨fun H i hi => by rw [← hone i (List.mem_range.1 hi)]; exact H i hi, fun H i hi => by rw [hone i (List.mem_range.1 hi)]; exact H i hi⟩
/-! the end -/
theorem end_len {p : Pj} {h : Int} {l : List Int} (hb : p.beginsOk h l = true) : p.lenOf ≤ p.endOf l := by
  obtain ⟨hf, hh, hall⟩ := begins_iff.1 hb
  obtain ⟨hok, hl, hin⟩ := fit_in hf
  have he : IsEarly p.L p.A p.lo.length (fun j => p.early.getD j 0) := earlyL_early _ _ _
  have key : ∀ k, k < p.lo.length → p.early.getD k 0 ≤ lF l k := by
    intro k
    induction k using Nat.strongRecOn with
    | _ k ih =>
      intro hk
      have h0 := (hin k (by omega)).1
      rcases he.hit k hk with h1 | ⟨j, hj, hbt, h1⟩
      · have e : p.early.getD k 0 = 0 := h1
        rw [e]; exact h0
      · have e : p.early.getD k 0 = p.early.getD j 0 + p.L j := h1
        have := ih j hj (by omega)
        have := after_iff.1 (beginOk_in (hall k hk)).1 j hj hbt
        omega
  have e1 : p.lenOf = p.len := if_pos hok
  have e2 : p.endOf l = endUp p.L (lF l) p.lo.length := if_pos hf
  rw [e1, e2]
  exact endUp_mono fun i hi => by have := key i hi; omega
/-- how long a task has been done by a time -/
def cov (b L : Nat → Int) (T : Int) (j : Nat) : Int := if T ≤ b j then 0 else if T < b j + L j then T - b j else L j
theorem cov_next {b L : Nat → Int} {T : Int} {j : Nat} (hb : 0 ≤ b j) (hL : 0 ≤ L j) : cov b L (T+1) j = cov b L T j + (if b j ≠ -1 ∧ b j ≤ T ∧ T < b j + L j then 1 else 0) := by
  unfold cov
  by_cases hc : b j ≠ -1 ∧ b j ≤ T ∧ T < b j + L j
  · rw [if_pos hc]
    split <;> split <;> (try split) <;> (try split) <;> omega
  · rw [if_neg hc]
    split <;> split <;> (try split) <;> (try split) <;> omega
def covSum (b L : Nat → Int) (T : Int) : Nat → Int
  | 0 => 0
  | k+1 => covSum b L T k + cov b L T k
theorem covSum_next {b L : Nat → Int} {T : Int} : ∀ k, (∀ j, j < k → 0 ≤ b j ∧ 0 ≤ L j) → covSum b L (T+1) k = covSum b L T k + busyTo b L T k
  | 0, _ => rfl
  | k+1, h => by
    have ih := covSum_next (T := T) k (fun j hj => h j (by omega))
    have h1 := cov_next (T := T) (h k (by omega)).1 (h k (by omega)).2
    unfold covSum busyTo
    rw [ih, h1]
    split <;> omega
theorem covSum_le {b L : Nat → Int} {n : Nat} {h : Int} (hbL : ∀ j, j < n → 0 ≤ b j ∧ 0 ≤ L j) (hh : ∀ t : Int, busyTo b L t n ≤ h) : ∀ T : Nat, covSum b L T n ≤ h * T
  | 0 => by
    have hz : ∀ k, k ≤ n → covSum b L 0 k = 0 := by
      intro k
      induction k with
      | zero => intro _; rfl
      | succ k ih =>
        intro hk
        have := ih (by omega)
        have hb := hbL k (by omega)
        unfold covSum cov
        rw [this, if_pos hb.1]; rfl
    have e := hz n (Nat.le_refl _)
    show covSum b L 0 n ≤ h * 0
    rw [e]; omega
  | T+1 => by
    have ih := covSum_le hbL hh T
    have hT := hh T
    rw [show ((T+1 : Nat) : Int) = (T : Int) + 1 by omega, covSum_next n hbL, Int.mul_add, Int.mul_one]
    omega
theorem covSum_full {b L : Nat → Int} {T : Int} : ∀ k, (∀ j, j < k → b j + L j ≤ T ∧ 0 < L j) → covSum b L T k = sumUp L k
  | 0, _ => rfl
  | k+1, h => by
    have ih := covSum_full k (fun j hj => h j (by omega))
    have hk := h k (by omega)
    show covSum b L T k + cov b L T k = sumUp L k + L k
    rw [ih]
    unfold cov
    rw [if_neg (by omega), if_neg (by omega)]
theorem end_work {p : Pj} {h : Int} {l : List Int} (hb : p.beginsOk h l = true) : sumUp p.L p.lo.length ≤ h * p.endOf l := by
  obtain ⟨hf, hh, hall⟩ := begins_iff.1 hb
  obtain ⟨hok, hl, hin⟩ := fit_in hf
  have hL := (ok_upto hok).2.2.1
  have e2 : p.endOf l = endUp p.L (lF l) p.lo.length := if_pos hf
  have h0 := endUp_pos p.L (lF l) p.lo.length
  rw [e2]
  obtain ⟨T, hT⟩ : ∃ T : Nat, endUp p.L (lF l) p.lo.length = (T : Int) := ⟨(endUp p.L (lF l) p.lo.length).toNat, by omega⟩
  have h1 := covSum_le (b := lF l) (L := p.L) (n := p.lo.length) (h := h) (fun j hj => ⟨(hin j (by omega)).1, by have := hL j hj; omega⟩) (busy_peak hb) T
  rw [covSum_full _ (fun j hj => ⟨by rw [← hT]; exact endUp_up p.L (lF l) p.lo.length j hj, by have := hL j hj; omega⟩)] at h1
  rw [hT]; exact h1
end Go.Proofs.Ytdfcjhcnojgkiaa
