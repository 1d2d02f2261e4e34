/- Plain facts on rows of happenings: the state behind them, the verdict, the first bad one, how long one may wait, what may be next, how a row goes on. No program in sight. No condition but those each lemma names. -/
import Derived.Test.YtffcfambgcaikaaStMath
import Derived.Test.YtffcfambgcaikaaHap
namespace Go.Proofs.Ytffcfambgcaikaa
open Go.RowKit
set_option linter.unusedVariables false
set_option linter.unusedSimpArgs false
def hA (l : List Hp) (k : Nat) : Hp := l.getD k Hp.z
def hpOk (m : Int) (l : List Hp) (k : Nat) : Bool :=
  inB (hA l k).pt 1 m && (inB (hA l k).tm 0 2000 && (decide (k = 0 ∨ (hA l (k-1)).tm ≤ (hA l k).tm) && (List.range k).all fun j => decide ((hA l j).pt ≠ (hA l k).pt)))
def Pl.heard (p : Pl) (l : List Hp) : Bool := (List.range l.length).all (hpOk (wrap64 (p.pts - 1)) l) && p.fits
def lastT (l : List Hp) : Int := if l.length = 0 then 0 else (hA l (l.length - 1)).tm
def base0 (n : Nat) : List Int := 0 :: List.replicate (n-1) (-1)
def doneTo (n : Nat) (l : List Hp) : Nat → List Int
  | 0 => base0 n
  | k+1 => (doneTo n l k).set (hA l k).pt.toNat (hA l k).tm
def doneL (n : Nat) (l : List Hp) : List Int := doneTo n l l.length
def Pl.verdict (p : Pl) (l : List Hp) (now : Int) : Int :=
  if (p.heard l && inB now (lastT l) 2000) = false then -1 else if p.goes now (doneL p.n l) = false then 2 else if l.length + 1 = p.n then 0 else 1
def Pl.brokenAt (p : Pl) (l : List Hp) (k : Nat) : Bool := decide (p.verdict (l.take k) (lastT (l.take k)) = 2)
def Pl.firstBad (p : Pl) (l : List Hp) : Int := if p.heard l then fidx ((List.range (l.length + 1)).findIdx? (p.brokenAt l)) else -1
def Pl.dead (p : Pl) (l : List Hp) : Int := deadTo p.clo (doneL p.n l) p.n p.n
def Pl.waitU (p : Pl) (l : List Hp) : Int := if p.heard l && p.goes (lastT l) (doneL p.n l) then min (p.dead l) 2000 else -1
def Pl.nextT (p : Pl) (l : List Hp) : Int := bestT p.clo (lastT l) (doneL p.n l) p.n p.n
def Pl.nextP (p : Pl) (l : List Hp) : Int := bestP (-1) p.clo (lastT l) (doneL p.n l) p.n p.n
def Pl.nextOk (p : Pl) (l : List Hp) : Bool := decide (p.verdict l (lastT l) = 1) && decide (p.nextT l ≤ 2000)
def Pl.next (p : Pl) (l : List Hp) : Hp := if p.nextOk l then ⟨p.nextP l, p.nextT l⟩ else Hp.z
def Pl.stepN (p : Pl) (l : List Hp) : Nat → Option (List Hp)
  | 0 => some l
  | k+1 => match p.stepN l k with
    | none => none
    | some o => if p.nextOk o then some (o ++ [p.next o]) else none
def Pl.ended (p : Pl) (l : List Hp) : Option (List Hp) := if p.heard l && p.goes (lastT l) (doneL p.n l) then p.stepN l (p.n - 1 - l.length) else none
theorem hA_snoc (l : List Hp) (h : Hp) (k : Nat) : hA (l ++ [h]) k = if k < l.length then hA l k else if k = l.length then h else Hp.z := by
  unfold hA
  rw [List.getD_eq_getElem?_getD, List.getD_eq_getElem?_getD]
  by_cases h1 : k < l.length
  · rw [if_pos h1, List.getElem?_append_left h1]
  · rw [if_neg h1, List.getElem?_append_right (by omega)]
    by_cases h2 : k = l.length
    · subst h2; rw [if_pos rfl, Nat.sub_self]; rfl
    · rw [if_neg h2, List.getElem?_eq_none (by simp; omega)]; rfl
theorem hA_take (l : List Hp) {m k : Nat} (h : k < m) : hA (l.take m) k = hA l k := by
  unfold hA
  rw [List.getD_eq_getElem?_getD, List.getD_eq_getElem?_getD, List.getElem?_take_of_lt h]
theorem heard_iff {p : Pl} {l : List Hp} : p.heard l = true ↔ p.fits = true ∧ ∀ k, k < l.length → (∃ q : Nat, (hA l k).pt = (q : Int) ∧ 1 ≤ q ∧ q < p.n) ∧ (0 ≤ (hA l k).tm ∧ (hA l k).tm ≤ 2000) ∧ (k = 0 ∨ (hA l (k-1)).tm ≤ (hA l k).tm) ∧ ∀ j, j < k → (hA l j).pt ≠ (hA l k).pt := by
  simp only [Pl.heard, hpOk, Bool.and_eq_true, List.all_eq_true, List.mem_range, decide_eq_true_eq, inB_iff]
  constructor
  · rintro ⟨h1, h2⟩
    obtain ⟨q1, q2, q3, -, -⟩ := plok_in (fits_ok h2).1
    refine ⟨h2, fun k hk => ?_⟩
    obtain ⟨a, b, c, d⟩ := h1 k hk
    have e : wrap64 (p.pts - 1) = p.pts - 1 := IntWalk.wrap64_in _ (by omega)
    rw [e] at a
    exact ⟨⟨(hA l k).pt.toNat, by omega, by omega, by omega⟩, b, c, d⟩
  · rintro ⟨h2, h1⟩
    obtain ⟨q1, q2, q3, -, -⟩ := plok_in (fits_ok h2).1
    refine ⟨fun k hk => ?_, h2⟩
    obtain ⟨⟨q, a1, a2, a3⟩, b, c, d⟩ := h1 k hk
    have e : wrap64 (p.pts - 1) = p.pts - 1 := IntWalk.wrap64_in _ (by omega)
    rw [e]
    exact ⟨by omega, b, c, d⟩
theorem heard_take {p : Pl} {l : List Hp} (h : p.heard l = true) (m : Nat) : p.heard (l.take m) = true := by
  rw [heard_iff] at h ⊢
  obtain ⟨h1, h2⟩ := h
  refine ⟨h1, fun k hk => ?_⟩
  rw [List.length_take] at hk
  obtain ⟨a, b, c, d⟩ := h2 k (by omega)
  rw [hA_take l (by omega)]
  refine ⟨a, b, ?_, fun j hj => ?_⟩
  · rcases c with c | c
    · exact .inl c
    · exact .inr (by rw [hA_take l (by omega)]; exact c)
  · rw [hA_take l (by omega)]; exact d j hj
theorem base0_at {n k : Nat} (hk : k < n) : dA (base0 n) k = if k = 0 then 0 else -1 := by
  unfold dA base0
  cases k with
  | zero => rfl
  | succ k =>
    rw [if_neg (by omega), List.getD_eq_getElem?_getD, List.getElem?_cons_succ, List.getElem?_replicate, if_pos (by omega)]; rfl
theorem doneTo_length (n : Nat) (hn : 1 ≤ n) (l : List Hp) : ∀ k, (doneTo n l k).length = n
  | 0 => by simp [doneTo, base0]; omega
  | k+1 => by unfold doneTo; rw [List.length_set, doneTo_length n hn l k]
/-- how many are open -/
def opn (d : List Int) : Nat → Nat
  | 0 => 0
  | m+1 => opn d m + if dA d m = -1 then 1 else 0
theorem opn_succ (d : List Int) (m : Nat) : opn d (m+1) = opn d m + if dA d m = -1 then 1 else 0 := rfl
theorem opn_zero {d : List Int} : ∀ m, opn d m = 0 ↔ ∀ j, j < m → dA d j ≠ -1
  | 0 => ⟨fun _ j hj => by omega, fun _ => rfl⟩
  | m+1 => by
    have ih := @opn_zero d m
    rw [opn_succ]
    constructor
    · intro h j hj
      by_cases e : dA d m = -1
      · rw [if_pos e] at h; omega
      · by_cases e2 : j = m
        · subst e2; exact e
        · exact ih.1 (by omega) j (by omega)
    · intro h
      rw [if_neg (h m (by omega)), ih.2 fun j hj => h j (by omega)]
theorem opn_set {d : List Int} {b : Nat} {T : Int} (hb : b < d.length) (eb : dA d b = -1) (hT : T ≠ -1) : ∀ m, opn (d.set b T) m + (if b < m then 1 else 0) = opn d m
  | 0 => by rw [if_neg (by omega)]; rfl
  | m+1 => by
    have ih := opn_set hb eb hT m
    rw [opn_succ, opn_succ]
    rw [dA_set hb]
    by_cases e : m = b
    · subst e
      rw [if_pos (c := m = m) rfl, if_neg hT, if_pos (c := m < m + 1) (by omega), if_pos eb]
      rw [if_neg (by omega)] at ih
      omega
    · rw [if_neg e]
      by_cases h : b < m
      · rw [if_pos h] at ih; rw [if_pos (c := b < m + 1) (by omega)]; omega
      · rw [if_neg h] at ih; rw [if_neg (c := b < m + 1) (by omega)]; omega
theorem opn_base (n : Nat) : ∀ m, m ≤ n → opn (base0 n) m = m - 1
  | 0, _ => rfl
  | m+1, h => by
    have ih := opn_base n m (by omega)
    rw [opn_succ]
    rw [base0_at (by omega), ih]
    by_cases e : m = 0
    · subst e; rw [if_pos rfl]; rfl
    · rw [if_neg e, if_pos rfl]; omega
/-- the state behind the first happenings -/
theorem done_facts {p : Pl} {l : List Hp} (h : p.heard l = true) : ∀ k, k ≤ l.length →
    (∀ j, j < p.n → (dA (doneTo p.n l k) j ≠ -1 ↔ j = 0 ∨ ∃ i, i < k ∧ (hA l i).pt = (j : Int))) ∧ dA (doneTo p.n l k) 0 = 0 ∧
    (∀ i, i < k → dA (doneTo p.n l k) (hA l i).pt.toNat = (hA l i).tm) ∧
    (∀ j, j < p.n → -1 ≤ dA (doneTo p.n l k) j ∧ (dA (doneTo p.n l k) j ≤ 0 ∨ (0 < k ∧ dA (doneTo p.n l k) j ≤ (hA l (k-1)).tm))) ∧ opn (doneTo p.n l k) p.n + k + 1 = p.n := by
  obtain ⟨hf, hl⟩ := heard_iff.1 h
  obtain ⟨q1, q2, q3, -, -⟩ := plok_in (fits_ok hf).1
  intro k
  induction k with
  | zero =>
    intro _
    refine ⟨fun j hj => ?_, ?_, fun i hi => by omega, fun j hj => ?_, ?_⟩
    · show dA (base0 p.n) j ≠ -1 ↔ _
      rw [base0_at hj]
      by_cases e : j = 0
      · rw [if_pos e]; exact ⟨fun _ => .inl e, fun _ => by omega⟩
      · rw [if_neg e]; exact ⟨fun h => absurd rfl h, fun h => by rcases h with h | ⟨i, hi, _⟩ <;> omega⟩
    · show dA (base0 p.n) 0 = 0
      rw [base0_at (by omega)]; rfl
    · show -1 ≤ dA (base0 p.n) j ∧ (dA (base0 p.n) j ≤ 0 ∨ _)
      rw [base0_at hj]; split <;> omega
    · show opn (base0 p.n) p.n + 0 + 1 = p.n
      rw [opn_base _ _ (Nat.le_refl _)]; omega
  | succ k ih =>
    intro hk
    obtain ⟨f1, f2, f3, f4, f5⟩ := ih (by omega)
    obtain ⟨⟨q, a1, a2, a3⟩, b, c, d⟩ := hl k (by omega)
    have hlen := doneTo_length p.n q2 l k
    have hq : (hA l k).pt.toNat = q := by omega
    have ho : dA (doneTo p.n l k) q = -1 := by
      by_cases e : dA (doneTo p.n l k) q = -1
      · exact e
      · rcases (f1 q a3).1 e with h | ⟨i, hi, h⟩
        · omega
        · exact absurd (h.trans a1.symm) (d i hi)
    have hs : ∀ j, dA (doneTo p.n l (k+1)) j = if j = q then (hA l k).tm else dA (doneTo p.n l k) j := fun j => by
      show dA ((doneTo p.n l k).set (hA l k).pt.toNat (hA l k).tm) j = _
      rw [hq, dA_set (by omega)]
    refine ⟨fun j hj => ?_, ?_, fun i hi => ?_, fun j hj => ?_, ?_⟩
    · rw [hs]
      by_cases e : j = q
      · rw [if_pos e]
        exact ⟨fun _ => .inr ⟨k, by omega, by rw [a1, e]⟩, fun _ => by omega⟩
      · rw [if_neg e, f1 j hj]
        constructor
        · rintro (h | ⟨i, hi, h⟩)
          · exact .inl h
          · exact .inr ⟨i, by omega, h⟩
        · rintro (h | ⟨i, hi, h⟩)
          · exact .inl h
          · by_cases e2 : i = k
            · subst e2; rw [a1] at h; omega
            · exact .inr ⟨i, by omega, h⟩
    · rw [hs, if_neg (by omega)]; exact f2
    · rw [hs]
      by_cases e2 : i = k
      · subst e2; rw [if_pos hq]
      · have hne := d i (by omega)
        obtain ⟨⟨q', b1, b2, b3⟩, -⟩ := hl i (by omega)
        rw [if_neg (by omega)]
        exact f3 i (by omega)
    · rw [hs]
      have hz : k + 1 - 1 = k := by omega
      rw [hz]
      by_cases e : j = q
      · rw [if_pos e]; omega
      · rw [if_neg e]
        have := f4 j hj
        refine ⟨this.1, ?_⟩
        rcases this.2 with h | h
        · exact .inl h
        · refine .inr ⟨by omega, ?_⟩
          rcases c with c | c
          · omega
          · omega
    · have := opn_set (T := (hA l k).tm) (show q < (doneTo p.n l k).length by omega) ho (by omega) p.n
      rw [if_pos a3] at this
      show opn ((doneTo p.n l k).set (hA l k).pt.toNat (hA l k).tm) p.n + (k+1) + 1 = p.n
      rw [hq]
      omega
theorem last_in {p : Pl} {l : List Hp} (h : p.heard l = true) : 0 ≤ lastT l ∧ lastT l ≤ 2000 := by
  unfold lastT
  split
  · omega
  · exact ((heard_iff.1 h).2 (l.length - 1) (by omega)).2.1
theorem heard_st {p : Pl} {l : List Hp} {now : Int} (h : p.heard l = true) (h1 : lastT l ≤ now) (h2 : now ≤ 2000) : p.stOk now (doneL p.n l) = true := by
  obtain ⟨hf, hl⟩ := heard_iff.1 h
  obtain ⟨q1, q2, q3, -, -⟩ := plok_in (fits_ok hf).1
  obtain ⟨f1, f2, f3, f4, f5⟩ := done_facts h l.length (Nat.le_refl _)
  have h0 := last_in h
  refine st_mk hf (doneTo_length _ q2 _ _) (by omega) f2 fun k hk => ⟨(f4 k hk).1, ?_⟩
  rcases (f4 k hk).2 with h | ⟨ha, hb⟩
  · show dA (doneTo p.n l l.length) k ≤ now
    omega
  · unfold lastT at h1
    rw [if_neg (by omega)] at h1
    show dA (doneTo p.n l l.length) k ≤ now
    omega
theorem heard_len {p : Pl} {l : List Hp} (h : p.heard l = true) : l.length + 1 ≤ p.n ∧ (l.length + 1 = p.n ↔ ∀ j, j < p.n → dA (doneL p.n l) j ≠ -1) := by
  obtain ⟨f1, f2, f3, f4, f5⟩ := done_facts h l.length (Nat.le_refl _)
  refine ⟨by omega, ?_⟩
  rw [← opn_zero]
  show _ ↔ opn (doneTo p.n l l.length) p.n = 0
  omega
theorem heard_open {p : Pl} {l : List Hp} (h : p.heard l = true) (hn : l.length + 1 ≠ p.n) : ∃ j, j < p.n ∧ dA (doneL p.n l) j = -1 := by
  by_cases hx : ∃ j, j < p.n ∧ dA (doneL p.n l) j = -1
  · exact hx
  · exact absurd ((heard_len h).2.2 fun j hj e => hx ⟨j, hj, e⟩) hn
theorem doneTo_congr (n : Nat) (l l' : List Hp) : ∀ k, (∀ i, i < k → hA l i = hA l' i) → doneTo n l k = doneTo n l' k
  | 0, _ => rfl
  | k+1, h => by unfold doneTo; rw [doneTo_congr n l l' k fun i hi => h i (by omega), h k (by omega)]
theorem done_snoc (n : Nat) (l : List Hp) (h : Hp) : doneL n (l ++ [h]) = (doneL n l).set h.pt.toNat h.tm := by
  unfold doneL
  rw [List.length_append, List.length_singleton]
  show (doneTo n (l ++ [h]) l.length).set _ _ = _
  rw [doneTo_congr n (l ++ [h]) l l.length fun i hi => by rw [hA_snoc, if_pos hi], hA_snoc, if_neg (by omega), if_pos rfl]
theorem last_snoc (l : List Hp) (h : Hp) : lastT (l ++ [h]) = h.tm := by
  unfold lastT
  rw [List.length_append, List.length_singleton, if_neg (by omega), hA_snoc, if_neg (by omega), if_pos (by omega)]
theorem heard_snoc {p : Pl} {l : List Hp} (h : p.heard l = true) {b : Nat} {T : Int} (hb : b < p.n) (hb0 : b ≠ 0) (eb : dA (doneL p.n l) b = -1) (h1 : lastT l ≤ T) (h2 : T ≤ 2000) : p.heard (l ++ [⟨b, T⟩]) = true := by
  obtain ⟨hf, hl⟩ := heard_iff.1 h
  obtain ⟨f1, f2, f3, f4, f5⟩ := done_facts h l.length (Nat.le_refl _)
  have h0 := last_in h
  refine heard_iff.2 ⟨hf, fun k hk => ?_⟩
  rw [List.length_append, List.length_singleton] at hk
  by_cases e : k < l.length
  · obtain ⟨a, b', c, d⟩ := hl k e
    rw [hA_snoc, if_pos e]
    refine ⟨a, b', ?_, fun j hj => ?_⟩
    · rcases c with c | c
      · exact .inl c
      · exact .inr (by rw [hA_snoc, if_pos (by omega)]; exact c)
    · rw [hA_snoc, if_pos (by omega)]; exact d j hj
  · have ek : k = l.length := by omega
    subst ek
    rw [hA_snoc, if_neg e, if_pos rfl]
    refine ⟨⟨b, rfl, by omega, hb⟩, ⟨by dsimp only; omega, h2⟩, ?_, fun j hj => ?_⟩
    · by_cases e0 : l.length = 0
      · exact .inl e0
      · refine .inr ?_
        rw [hA_snoc, if_pos (by omega)]
        unfold lastT at h1
        rw [if_neg e0] at h1
        exact h1
    · rw [hA_snoc, if_pos hj]
      intro hx
      exact ((f1 b hb).2 (.inr ⟨j, hj, hx⟩)) eb
theorem verdict_in {p : Pl} {l : List Hp} {now : Int} : (p.verdict l now = -1 ↔ ¬ (p.heard l = true ∧ lastT l ≤ now ∧ now ≤ 2000)) ∧ (p.verdict l now = 2 ↔ (p.heard l = true ∧ lastT l ≤ now ∧ now ≤ 2000) ∧ p.goes now (doneL p.n l) = false) ∧
    (p.verdict l now = 0 ↔ (p.heard l = true ∧ lastT l ≤ now ∧ now ≤ 2000) ∧ p.goes now (doneL p.n l) = true ∧ l.length + 1 = p.n) ∧ (p.verdict l now = 1 ↔ (p.heard l = true ∧ lastT l ≤ now ∧ now ≤ 2000) ∧ p.goes now (doneL p.n l) = true ∧ l.length + 1 ≠ p.n) := by
  have hi : (p.heard l && inB now (lastT l) 2000) = true ↔ (p.heard l = true ∧ lastT l ≤ now ∧ now ≤ 2000) := by rw [Bool.and_eq_true, inB_iff]
  rw [← hi]
  unfold Pl.verdict
  cases h1 : (p.heard l && inB now (lastT l) 2000) <;> cases h2 : p.goes now (doneL p.n l) <;> by_cases h3 : l.length + 1 = p.n <;> simp [h3]
theorem verdict_val (p : Pl) (l : List Hp) (now : Int) : p.verdict l now = -1 ∨ p.verdict l now = 0 ∨ p.verdict l now = 1 ∨ p.verdict l now = 2 := by
  unfold Pl.verdict
  split
  · omega
  · split
    · omega
    · split <;> omega
theorem last_le {p : Pl} {l : List Hp} (h : p.heard l = true) (now : Int) (h1 : lastT l ≤ now) (h2 : now ≤ 2000) : (p.verdict l now = 2 ↔ p.goes now (doneL p.n l) = false) := by
  rw [verdict_in.2.1]; exact ⟨fun h => h.2, fun h' => ⟨⟨h, h1, h2⟩, h'⟩⟩
/-- how long one may wait -/
theorem wait_law {p : Pl} {l : List Hp} (h : p.heard l = true) (hg : p.goes (lastT l) (doneL p.n l) = true) : lastT l ≤ min (p.dead l) 2000 ∧ min (p.dead l) 2000 ≤ 2000 ∧ ∀ T, lastT l ≤ T → T ≤ 2000 → (p.verdict l T = 2 ↔ min (p.dead l) 2000 < T) := by
  have h0 := last_in h
  have hst := heard_st h (Int.le_refl _) h0.2
  have hd := dead_now hst hg
  refine ⟨?_, by omega, fun T h1 h2 => ?_⟩
  · show lastT l ≤ min (deadTo p.clo (doneL p.n l) p.n p.n) 2000
    omega
  · rw [last_le h T h1 h2]
    have hl := goes_later hst hg h1 h2
    unfold Pl.dead
    cases hgt : p.goes T (doneL p.n l)
    · rw [hgt] at hl
      have : ¬ T ≤ deadTo p.clo (doneL p.n l) p.n p.n := fun hx => by have := hl.2 hx; cases this
      exact ⟨fun _ => by omega, fun _ => rfl⟩
    · have := hl.1 hgt
      exact ⟨fun hx => (by cases hx), fun hx => by omega⟩
theorem dead_all {p : Pl} {l : List Hp} (h : p.heard l = true) (hn : l.length + 1 = p.n) : p.dead l = 100000 := by
  have h2 := (heard_len h).2.1 hn
  refine Int.le_antisymm ((le_deadTo p.n).1 (Int.le_refl _)).1 ((le_deadTo p.n).2 ⟨Int.le_refl _, fun k hk e => absurd e (h2 k hk)⟩)
/-! ### what may be next -/
def Near (p : Pl) (l : List Hp) (M : Int) : Prop := ∃ x, Sol p (lastT l) (doneL p.n l) x ∧ ∀ k, k < p.n → dA (doneL p.n l) k = -1 → x k ≤ M
theorem next_in {p : Pl} {l : List Hp} (h : p.nextOk l = true) : p.heard l = true ∧ p.goes (lastT l) (doneL p.n l) = true ∧ l.length + 1 ≠ p.n ∧ p.nextT l ≤ 2000 := by
  simp only [Pl.nextOk, Bool.and_eq_true, decide_eq_true_eq] at h
  obtain ⟨⟨a, -⟩, b, c⟩ := verdict_in.2.2.2.1 h.1
  exact ⟨a, b, c, h.2⟩
theorem next_law {p : Pl} {l : List Hp} (h : p.nextOk l = true) : p.heard (l ++ [p.next l]) = true ∧ p.goes (p.next l).tm (doneL p.n (l ++ [p.next l])) = true ∧ (p.next l).tm ≤ min (p.dead l) 2000 ∧ lastT l ≤ (p.next l).tm ∧
    (∃ q : Nat, (p.next l).pt = (q : Int) ∧ 1 ≤ q ∧ q < p.n) ∧ ∀ M, Near p l M → (p.next l).tm ≤ M ∧ Near p (l ++ [p.next l]) M := by
  obtain ⟨h1, h2, h3, h4⟩ := next_in h
  have h0 := last_in h1
  have hst := heard_st h1 (Int.le_refl _) h0.2
  have key : ∀ x, Sol p (lastT l) (doneL p.n l) x → p.heard (l ++ [p.next l]) = true ∧ p.goes (p.next l).tm (doneL p.n (l ++ [p.next l])) = true ∧ (p.next l).tm ≤ min (p.dead l) 2000 ∧ lastT l ≤ (p.next l).tm ∧ (∃ q : Nat, (p.next l).pt = (q : Int) ∧ 1 ≤ q ∧ q < p.n) ∧
      ∀ M, (∀ k, k < p.n → dA (doneL p.n l) k = -1 → x k ≤ M) → (p.next l).tm ≤ M ∧ Near p (l ++ [p.next l]) M := fun x hx => by
    obtain ⟨b, b1, b2, b3, b4, b5, b6, b7, b8, y, b9, b10⟩ := next_goes (-1) hst h2 h4 hx
    have hn : p.next l = ⟨(b : Int), p.nextT l⟩ := by
      unfold Pl.next
      rw [if_pos h]
      show (⟨p.nextP l, p.nextT l⟩ : Hp) = _
      rw [show p.nextP l = (b : Int) from b2]
    rw [hn]
    have hd : doneL p.n (l ++ [⟨(b : Int), p.nextT l⟩]) = (doneL p.n l).set b (p.nextT l) := by rw [done_snoc]; rfl
    refine ⟨heard_snoc h1 b1 b3 b4 b5 h4, ?_, ?_, b5, ⟨b, rfl, by omega, b1⟩, fun M hM => ⟨Int.le_trans b6 (hM b b1 b4), y, ?_, fun k hk e => ?_⟩⟩
    · rw [hd]; exact (goes_iff b7).2 ⟨y, b9⟩
    · show p.nextT l ≤ min (deadTo p.clo (doneL p.n l) p.n p.n) 2000
      unfold Pl.nextT at h4 ⊢
      omega
    · rw [hd, last_snoc]; exact b9
    · rw [hd] at e
      have hlen : (doneL p.n l).length = p.n := (st_in hst).2.1
      rw [dA_set (by omega)] at e
      have hTn : p.nextT l ≠ -1 := by have : lastT l ≤ p.nextT l := b5; omega
      split at e
      · exact absurd e hTn
      · exact Int.le_trans (b10 k hk e) (hM k hk e)
  obtain ⟨x, hx⟩ := (goes_iff hst).1 h2
  obtain ⟨a, b, c, d, e, -⟩ := key x hx
  exact ⟨a, b, c, d, e, fun M ⟨z, hz, hM⟩ => (key z hz).2.2.2.2.2 M hM⟩
theorem near_ok {p : Pl} {l : List Hp} {M : Int} (h1 : p.heard l = true) (h2 : p.goes (lastT l) (doneL p.n l) = true) (h3 : l.length + 1 ≠ p.n) (hN : Near p l M) (hM : M ≤ 2000) : p.nextOk l = true := by
  have h0 := last_in h1
  obtain ⟨x, hx, hm⟩ := hN
  obtain ⟨j, hj, ej⟩ := heard_open h1 h3
  obtain ⟨r, r1, r2, r3, r4, r5⟩ := ready_le hx hj ej
  have := (best_is (-1) p.clo (lastT l) (doneL p.n l) p.n p.n).2.1 r r1 r3
  have := hm r r1 r2
  simp only [Pl.nextOk, Bool.and_eq_true, decide_eq_true_eq]
  refine ⟨verdict_in.2.2.2.2 ⟨⟨h1, Int.le_refl _, h0.2⟩, h2, h3⟩, ?_⟩
  show bestT p.clo (lastT l) (doneL p.n l) p.n p.n ≤ 2000
  omega
theorem near_start {p : Pl} {l : List Hp} (h1 : p.heard l = true) (h2 : p.goes (lastT l) (doneL p.n l) = true) : Near p l (lastT l + 495) := by
  have hst := heard_st h1 (Int.le_refl _) (last_in h1).2
  obtain ⟨x, hx⟩ := (goes_iff hst).1 h2
  exact sol_near hst hx
/-! ### to the end -/
theorem step_none {p : Pl} {l : List Hp} {k : Nat} (h : p.stepN l k = none) : ∀ m, p.stepN l (k + m) = none
  | 0 => h
  | m+1 => by
    have ih := step_none h m
    show (match p.stepN l (k + m) with | none => none | some o => if p.nextOk o then some (o ++ [p.next o]) else none) = none
    rw [ih]
theorem step_some {p : Pl} {l o : List Hp} {k : Nat} (h : p.stepN l k = some o) : p.stepN l (k+1) = if p.nextOk o then some (o ++ [p.next o]) else none := by
  show (match p.stepN l k with | none => none | some o => if p.nextOk o then some (o ++ [p.next o]) else none) = _
  rw [h]
theorem step_good {p : Pl} {l : List Hp} (h1 : p.heard l = true) (h2 : p.goes (lastT l) (doneL p.n l) = true) : ∀ k o, p.stepN l k = some o →
    p.heard o = true ∧ p.goes (lastT o) (doneL p.n o) = true ∧ o.length = l.length + k ∧ (∃ t, o = l ++ t) ∧ ∀ M, Near p l M → Near p o M
  | 0, o, h => by
    have e : l = o := by simpa [Pl.stepN] using h
    subst e
    exact ⟨h1, h2, rfl, ⟨[], (List.append_nil _).symm⟩, fun M hM => hM⟩
  | k+1, o, h => by
    cases hk : p.stepN l k with
    | none => rw [step_none hk 1] at h; cases h
    | some o' =>
      obtain ⟨a, b, c, ⟨t, ht⟩, d⟩ := step_good h1 h2 k o' hk
      rw [step_some hk] at h
      split at h
      · rename_i hn
        have e : o' ++ [p.next o'] = o := by simpa using h
        subst e
        obtain ⟨e1, e2, -, -, -, e6⟩ := next_law hn
        refine ⟨e1, by rw [last_snoc]; exact e2, by rw [List.length_append, List.length_singleton]; omega, ⟨t ++ [p.next o'], by rw [ht, List.append_assoc]⟩, fun M hM => (e6 M (d M hM)).2⟩
      · cases h
theorem step_ok {p : Pl} {l : List Hp} (h1 : p.heard l = true) (h2 : p.goes (lastT l) (doneL p.n l) = true) {M : Int} (hN : Near p l M) (hM : M ≤ 2000) : ∀ k, l.length + k + 1 ≤ p.n → ∃ o, p.stepN l k = some o
  | 0, _ => ⟨l, rfl⟩
  | k+1, hk => by
    obtain ⟨o, ho⟩ := step_ok h1 h2 hN hM k (by omega)
    obtain ⟨a, b, c, d, e⟩ := step_good h1 h2 k o ho
    rw [step_some ho, if_pos (near_ok a b (by omega) (e M hN) hM)]
    exact ⟨_, rfl⟩
theorem ended_some {p : Pl} {l o : List Hp} (h : p.ended l = some o) : p.heard l = true ∧ p.goes (lastT l) (doneL p.n l) = true ∧ p.heard o = true ∧ p.goes (lastT o) (doneL p.n o) = true ∧ o.length + 1 = p.n ∧ ∃ t, o = l ++ t := by
  unfold Pl.ended at h
  split at h
  · rename_i hc
    rw [Bool.and_eq_true] at hc
    have hl := (heard_len hc.1).1
    obtain ⟨a, b, c, d, e⟩ := step_good hc.1 hc.2 _ o h
    exact ⟨hc.1, hc.2, a, b, by omega, d⟩
  · cases h
theorem ended_none {p : Pl} {l : List Hp} (h : p.ended l = none) (h1 : p.heard l = true) (h2 : p.goes (lastT l) (doneL p.n l) = true) : 1400 < lastT l := by
  rcases Int.lt_or_le 1400 (lastT l) with hlt | hle
  · exact hlt
  · exfalso
    unfold Pl.ended at h
    rw [if_pos (by rw [h1, h2]; rfl)] at h
    have hl := (heard_len h1).1
    obtain ⟨o, ho⟩ := step_ok h1 h2 (near_start h1 h2) (by omega) (p.n - 1 - l.length) (by omega)
    rw [h] at ho; cases ho
/-- whatever is open, something may happen, soon -/
theorem stuck_law {p : Pl} {l : List Hp} {now : Int} (h : p.verdict l now = 1) (hlate : now ≤ 1400) : ∃ (b : Nat) (T : Int), 1 ≤ b ∧ b < p.n ∧ now ≤ T ∧ T ≤ now + 600 ∧ T ≤ p.waitU l ∧ (p.verdict (l ++ [⟨b, T⟩]) T = 0 ∨ p.verdict (l ++ [⟨b, T⟩]) T = 1) := by
  obtain ⟨⟨h1, h2, h3⟩, h4, h5⟩ := verdict_in.2.2.2.1 h
  have hst := heard_st h1 h2 h3
  obtain ⟨j, hj, ej⟩ := heard_open h1 h5
  obtain ⟨b, T, b1, b2, b3, b4, b5, b6, b7, b8⟩ := some_next hst h4 hlate hj ej
  have h0 := last_in h1
  have hst0 := heard_st h1 (Int.le_refl _) h0.2
  have hg0 : p.goes (lastT l) (doneL p.n l) = true := by
    obtain ⟨x, hx⟩ := (goes_iff hst).1 h4
    exact (goes_iff hst0).2 ⟨x, hx.1, fun k hk e => Int.le_trans h2 (hx.2.1 k hk e), hx.2.2⟩
  have hh := heard_snoc h1 b1 b2 b3 (Int.le_trans h2 b4) (by omega)
  have hd : doneL p.n (l ++ [⟨(b : Int), T⟩]) = (doneL p.n l).set b T := by rw [done_snoc]; rfl
  refine ⟨b, T, by omega, b1, b4, by omega, ?_, ?_⟩
  · unfold Pl.waitU
    rw [if_pos (by rw [h1, hg0]; rfl)]
    unfold Pl.dead
    omega
  · have hT : p.goes T (doneL p.n (l ++ [⟨(b : Int), T⟩])) = true := by rw [hd]; exact b8
    have hin : p.heard (l ++ [⟨(b : Int), T⟩]) = true ∧ lastT (l ++ [⟨(b : Int), T⟩]) ≤ T ∧ T ≤ 2000 := ⟨hh, by rw [last_snoc]; exact Int.le_refl _, by omega⟩
    by_cases e : (l ++ [(⟨(b : Int), T⟩ : Hp)]).length + 1 = p.n
    · exact .inl (verdict_in.2.2.1.2 ⟨hin, hT, e⟩)
    · exact .inr (verdict_in.2.2.2.2 ⟨hin, hT, e⟩)
/-! ### the first bad one -/
theorem bad_found {p : Pl} {l : List Hp} (h : p.heard l = true) {k : Nat} (hk : k ≤ l.length) (hb : p.brokenAt l k = true) (h0 : ∀ j, j < k → p.brokenAt l j = false) : p.firstBad l = k := by
  unfold Pl.firstBad
  rw [if_pos h]
  have : (List.range (l.length + 1)).findIdx? (p.brokenAt l) = some k := by
    refine findIdx_at _ _ k k (by rw [List.getElem?_range (by omega)]) ?_ hb
    rw [List.findIdx?_eq_none_iff]
    intro x hx
    rw [List.take_range, List.mem_range] at hx
    exact h0 x (by omega)
  rw [this]; rfl
theorem bad_none {p : Pl} {l : List Hp} (h : p.heard l = true) (h0 : ∀ j, j ≤ l.length → p.brokenAt l j = false) : p.firstBad l = -1 := by
  unfold Pl.firstBad
  rw [if_pos h]
  have : (List.range (l.length + 1)).findIdx? (p.brokenAt l) = none := by
    rw [List.findIdx?_eq_none_iff]
    intro x hx
    rw [List.mem_range] at hx
    exact h0 x (by omega)
  rw [this]; rfl
theorem bad_law {p : Pl} {l : List Hp} (h : p.heard l = true) : (∃ k : Nat, p.firstBad l = k ∧ k ≤ l.length ∧ p.brokenAt l k = true ∧ ∀ j, j < k → p.brokenAt l j = false) ∨ (p.firstBad l = -1 ∧ ∀ j, j ≤ l.length → p.brokenAt l j = false) := by
  by_cases hx : ∃ k, k ≤ l.length ∧ p.brokenAt l k = true
  · have : ∃ k, k < l.length + 1 ∧ p.brokenAt l k = true := by obtain ⟨k, hk, hb⟩ := hx; exact ⟨k, by omega, hb⟩
    obtain ⟨k, hk, hb, hm⟩ := low_of (P := fun k => p.brokenAt l k = true) (fun k => (k : Int)) (l.length + 1) this
    have h0 : ∀ j, j < k → p.brokenAt l j = false := fun j hj => by
      cases hj2 : p.brokenAt l j
      · rfl
      · have := hm j (by omega) hj2; omega
    exact .inl ⟨k, bad_found h (by omega) hb h0, by omega, hb, h0⟩
  · have h0 : ∀ j, j ≤ l.length → p.brokenAt l j = false := fun j hj => by
      cases hj2 : p.brokenAt l j
      · rfl
      · exact absurd ⟨j, hj, hj2⟩ hx
    exact .inr ⟨bad_none h h0, h0⟩
end Go.Proofs.Ytffcfambgcaikaa
