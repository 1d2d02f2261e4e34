/- Plain facts on the table of a turned plan; TableOf as the laws meet it. No condition but those each lemma names. -/
import Derived.Test.YtlcmhcfnmohgmaaPlanTurn
import Derived.Test.YtlcmhcfnmohgmaaClosed
import Derived.Test.YtlcmhcfnmohgmaaFitsS
namespace Go.Proofs.Ytlcmhcfnmohgmaa
open Go.RowKit
set_option linter.unusedVariables false
set_option linter.unusedSimpArgs false
theorem turn_ok (p : Pl) (h : p.ok = true) : p.turned.ok = true := by
  unfold Pl.turned
  rw [if_pos h]
  simp only [Pl.ok, Bool.and_eq_true, decide_eq_true_eq, List.all_eq_true] at *
  obtain ⟨h1, h2, h3⟩ := h
  refine ⟨h1, by simpa using h2, fun b hb => ?_⟩
  simp only [List.mem_map] at hb
  obtain ⟨c, hc, rfl⟩ := hb
  have := h3 c hc
  simp only [Bd.ok, Bd.turn, Bool.and_eq_true] at *
  exact ⟨this.2.1, this.1, this.2.2⟩
theorem turn_turn (p : Pl) (h : p.ok = true) : p.turned.turned = p := by
  have h2 := turn_ok p h
  have e : p.turned = ⟨p.pts, p.bs.map Bd.turn⟩ := by unfold Pl.turned; rw [if_pos h]
  rw [e] at h2 ⊢
  unfold Pl.turned
  rw [if_pos h2]
  obtain ⟨pts, bs⟩ := p
  simp [Function.comp_def, Bd.turn]
theorem turn_not (p : Pl) (h : p.ok = false) : p.turned = Pl.zero := by unfold Pl.turned; rw [if_neg (by simp [h])]
theorem turn_length (p : Pl) : p.turned.bs.length ≤ p.bs.length := by unfold Pl.turned; split <;> simp [Pl.zero]
theorem impl_TableOf_yes (p : Pl) (bs : Value) (w : World) (hv : Bds w 0 bs p.bs) (hok : p.ok = true) :
    Calls Try.prog 12 #[.agg #[.int .i64 p.pts, bs]] w fun e w' => ∃ v hs, e = .returned v ∧ TabG w' w.heap.size p.n p.n v hs p.tab ∧ Below w.heap.size w w' :=
  (impl_TableOf p bs w hv).mono fun e w' ⟨v, hs, h1, h2, h3, h4⟩ => ⟨v, hs, h1, h2 hok, h4⟩
theorem impl_TableOf_no (p : Pl) (bs : Value) (w : World) (hv : Bds w 0 bs p.bs) (hok : p.ok = false) :
    Calls Try.prog 12 #[.agg #[.int .i64 p.pts, bs]] w fun e w' => ∃ v hs, e = .returned v ∧ TabG w' w.heap.size p.n 0 v hs p.tab ∧ Below w.heap.size w w' :=
  (impl_TableOf p bs w hv).mono fun e w' ⟨v, hs, h1, h2, h3, h4⟩ => ⟨v, hs, h1, h3 hok, h4⟩
theorem spec_TableOf_yes (p : Pl) (bs : Value) (w : World) (hv : Bds w 0 bs p.bs) (hok : p.ok = true) :
    Calls Try.prog 14 #[.agg #[.int .i64 p.pts, bs]] w fun e w' => ∃ v hs, e = .returned v ∧ TabG w' w.heap.size p.n p.n v hs p.tab ∧ Below w.heap.size w w' :=
  (spec_TableOf p bs w hv).mono fun e w' ⟨v, hs, h1, h2, h3, h4⟩ => ⟨v, hs, h1, h2 hok, h4⟩
theorem spec_TableOf_no (p : Pl) (bs : Value) (w : World) (hv : Bds w 0 bs p.bs) (hok : p.ok = false) :
    Calls Try.prog 14 #[.agg #[.int .i64 p.pts, bs]] w fun e w' => ∃ v hs, e = .returned v ∧ TabG w' w.heap.size p.n 0 v hs p.tab ∧ Below w.heap.size w w' :=
  (spec_TableOf p bs w hv).mono fun e w' ⟨v, hs, h1, h2, h3, h4⟩ => ⟨v, hs, h1, h3 hok, h4⟩
theorem tab_turn (bs : List Bd) (i j : Nat) : tab0 (bs.map Bd.turn) j i = tab0 bs i j := by
  have key : ∀ x, x ≤ tab0 (bs.map Bd.turn) j i ↔ x ≤ tab0 bs i j := fun x => by
    rw [le_tab0, le_tab0]
    constructor
    · rintro ⟨h1, h2⟩
      refine ⟨?_, fun b hb hf ht => h2 (Bd.turn b) (List.mem_map_of_mem (f := Bd.turn) hb) ht hf⟩
      by_cases h : i = j
      · rw [if_pos h]; rw [if_pos h.symm] at h1; exact h1
      · rw [if_neg h]; rw [if_neg (Ne.symm h)] at h1; exact h1
    · rintro ⟨h1, h2⟩
      refine ⟨?_, fun b hb hf ht => ?_⟩
      · by_cases h : i = j
        · rw [if_pos h.symm]; rw [if_pos h] at h1; exact h1
        · rw [if_neg (Ne.symm h)]; rw [if_neg h] at h1; exact h1
      obtain ⟨c, hc, rfl⟩ := List.mem_map.1 hb
      exact h2 c hc ht hf
  have a := (key _).1 (Int.le_refl _)
  have b := (key _).2 (Int.le_refl _)
  omega
theorem turned_tab {p : Pl} (h : p.ok = true) (i j : Nat) : p.turned.tab i j = p.tab j i := by
  have e : p.turned = ⟨p.pts, p.bs.map Bd.turn⟩ := if_pos h
  rw [e]; exact tab_turn p.bs j i
theorem turned_n {p : Pl} (h : p.ok = true) : p.turned.n = p.n := by
  have e : p.turned = ⟨p.pts, p.bs.map Bd.turn⟩ := if_pos h
  rw [e]; rfl
theorem turned_fits {p : Pl} (h : p.ok = true) : p.turned.fits = p.fits := by
  have hf : Fits p.turned.tab p.turned.n ↔ Fits p.tab p.n := by
    rw [turned_n h]
    have e : ∀ i, i < p.n → upT p.turned.tab p.n i i = upT p.tab p.n i i := fun i hi => by
      rw [upT_congr (D := p.turned.tab) (E := fun a b => p.tab b a) (fun a b _ _ => turned_tab h a b) p.n (Nat.le_refl _) i i hi hi, upT_turn]
    exact ⟨fun hh i hi => by rw [← e i hi]; exact hh i hi, fun hh i hi => by rw [e i hi]; exact hh i hi⟩
  cases h1 : p.fits
  · cases h2 : p.turned.fits
    · rfl
    · have := fits_mk h (hf.1 (fits_ok h2).2); rw [h1] at this; cases this
  · exact fits_mk (turn_ok p h) (hf.2 (fits_ok h1).2)
end Go.Proofs.Ytlcmhcfnmohgmaa
