/- Plain facts on times that keep a plan: moved, turned round, broken bounds. No program in sight. No condition but those each lemma names. -/
import Derived.Test.YtcjdodjjdchnaaaPlanTimes
import Derived.Test.YtcjdodjjdchnaaaPlanTurn
namespace Go.Proofs.Ytcjdodjjdchnaaa
open Go.RowKit
set_option linter.unusedVariables false
set_option linter.unusedSimpArgs false
theorem map_at {l : List Int} {f : Int → Int} {j : Nat} (hj : j < l.length) : (l.map f).getD j 0 = f (l.getD j 0) := by
  rw [List.getD_eq_getElem?_getD, List.getD_eq_getElem?_getD, List.getElem?_map, List.getElem?_eq_getElem hj]
  rfl
/-- the places of the first k bounds that are not kept -/
def brokenTo (p : Pl) (l : List Int) : Nat → List Int
  | 0 => []
  | k+1 => brokenTo p l k ++ (if keptB l (p.bs.getD k Bd.z) then [] else [(k : Int)])
def broken (p : Pl) (l : List Int) : List Int := if timesOk p l then brokenTo p l p.bs.length else []
theorem brokenTo_len (p : Pl) (l : List Int) : ∀ k, (brokenTo p l k).length ≤ k
  | 0 => Nat.le_refl _
  | k+1 => by
    have := brokenTo_len p l k
    simp only [brokenTo, List.length_append]
    split <;> simp <;> omega
theorem brokenTo_nil (p : Pl) (l : List Int) : ∀ k, (brokenTo p l k).length = 0 ↔ ∀ j, j < k → keptB l (p.bs.getD j Bd.z) = true
  | 0 => ⟨fun _ j hj => by omega, fun _ => rfl⟩
  | k+1 => by
    have ih := brokenTo_nil p l k
    simp only [brokenTo, List.length_append]
    constructor
    · intro h j hj
      by_cases hjk : j = k
      · subst hjk
        cases hk : keptB l (p.bs.getD j Bd.z)
        · rw [hk] at h; simp at h
        · rfl
      · exact ih.1 (by omega) j (by omega)
    · intro h
      rw [ih.2 (fun j hj => h j (by omega)), h k (by omega)]
      rfl
theorem bs_all (bs : List Bd) (q : Bd → Bool) : bs.all q = true ↔ ∀ j, j < bs.length → q (bs.getD j Bd.z) = true := by
  rw [List.all_eq_true]
  constructor
  · intro h j hj
    refine h _ ?_
    rw [List.getD_eq_getElem?_getD, List.getElem?_eq_getElem hj]
    exact List.getElem_mem hj
  · intro h b hb
    obtain ⟨j, hj, rfl⟩ := List.mem_iff_getElem.1 hb
    have := h j hj
    rw [List.getD_eq_getElem?_getD, List.getElem?_eq_getElem hj] at this
    exact this
theorem broken_keeps {p : Pl} {l : List Int} (h : timesOk p l = true) : keeps p l = decide ((broken p l).length = 0) := by
  have e : broken p l = brokenTo p l p.bs.length := if_pos h
  rw [e]
  unfold keeps
  rw [h, Bool.true_and]
  cases hc : p.bs.all (keptB l)
  · refine (decide_eq_false fun h0 => ?_).symm
    rw [(bs_all _ _).2 ((brokenTo_nil p l _).1 h0)] at hc
    cases hc
  · exact (decide_eq_true ((brokenTo_nil p l _).2 ((bs_all _ _).1 hc))).symm
def movedL (l : List Int) (c : Int) : List Int := l.map (· + c)
def movedOk (p : Pl) (l : List Int) (c : Int) : Bool := (timesOk p l && inB c (-2000) 2000) && timesOk p (movedL l c)
def moved (p : Pl) (l : List Int) (c : Int) : List Int := if movedOk p l c then movedL l c else []
theorem moved_keeps {p : Pl} {l : List Int} {c : Int} (h : movedOk p l c = true) : keeps p (moved p l c) = keeps p l := by
  have e : moved p l c = movedL l c := if_pos h
  simp only [movedOk, Bool.and_eq_true] at h
  obtain ⟨⟨h1, h2⟩, h3⟩ := h
  have hin := (times_in h1).2.2.2
  rw [e]
  unfold keeps
  rw [h1, h3, Bool.true_and, Bool.true_and]
  have hb : ∀ b ∈ p.bs, keptB (movedL l c) b = keptB l b := by
    intro b hb
    have := hin b hb
    unfold keptB movedL
    rw [map_at (by omega), map_at (by omega)]
    by_cases hk : l.getD b.t.toNat 0 - l.getD b.f.toNat 0 ≤ b.m
    · rw [decide_eq_true hk, decide_eq_true (by omega)]
    · rw [decide_eq_false hk, decide_eq_false (by omega)]
  rw [Bool.eq_iff_iff, List.all_eq_true, List.all_eq_true]
  exact ⟨fun H b hbm => by rw [← hb b hbm]; exact H b hbm, fun H b hbm => by rw [hb b hbm]; exact H b hbm⟩
def otherL (l : List Int) : List Int := l.map (fun x => -x)
theorem other_keeps {p : Pl} {l : List Int} (h : timesOk p l = true) : keeps p.turned (otherL l) = keeps p l := by
  obtain ⟨hok, hlen, hr, hin⟩ := times_in h
  have e : p.turned = ⟨p.pts, p.bs.map Bd.turn⟩ := by unfold Pl.turned; rw [if_pos hok]
  have hto : p.turned.ok = true := by
    rw [e]
    simp only [Pl.ok, Bool.and_eq_true, decide_eq_true_eq, List.all_eq_true] at hok ⊢
    obtain ⟨h1, h2, h3⟩ := hok
    refine ⟨h1, by simpa using h2, fun b hb => ?_⟩
    simp only [List.mem_map] at hb
    obtain ⟨c, hc, rfl⟩ := hb
    have := h3 c hc
    simp only [Bd.ok, Bd.turn, Bool.and_eq_true] at *
    exact ⟨this.2.1, this.1, this.2.2⟩
  have ht : timesOk p.turned (otherL l) = true := by
    unfold timesOk
    rw [hto, e]
    simp only [Bool.true_and, Bool.and_eq_true, decide_eq_true_eq, List.all_eq_true]
    refine ⟨by rw [otherL, List.length_map]; exact hlen, fun x hx => ?_⟩
    obtain ⟨y, hy, rfl⟩ := List.mem_map.1 hx
    obtain ⟨j, hj, rfl⟩ := List.mem_iff_getElem.1 hy
    have := hr j hj
    rw [List.getD_eq_getElem?_getD, List.getElem?_eq_getElem hj] at this
    have h2 : -2000 ≤ l[j] ∧ l[j] ≤ 2000 := this
    exact (inB_iff _ _ _).2 (by omega)
  unfold keeps
  rw [h, ht, Bool.true_and, Bool.true_and, e]
  have hb : ∀ b ∈ p.bs, keptB (otherL l) b.turn = keptB l b := by
    intro b hb
    have := hin b hb
    unfold keptB otherL Bd.turn
    dsimp only
    rw [map_at (by omega), map_at (by omega)]
    by_cases hk : l.getD b.t.toNat 0 - l.getD b.f.toNat 0 ≤ b.m
    · rw [decide_eq_true hk, decide_eq_true (by omega)]
    · rw [decide_eq_false hk, decide_eq_false (by omega)]
  rw [Bool.eq_iff_iff, List.all_eq_true, List.all_eq_true]
  constructor
  · intro H b hbm
    rw [← hb b hbm]
    exact H _ (List.mem_map.2 ⟨b, hbm, rfl⟩)
  · intro H b hbm
    obtain ⟨c, hc, rfl⟩ := List.mem_map.1 hbm
    rw [hb c hc]
    exact H c hc
end Go.Proofs.Ytcjdodjjdchnaaa
