/- Plain facts on states of a plan: windows, who is ready, when a state goes on, what may be next. No program in sight. No condition but those each lemma names. -/
import Derived.Test.YtffcfambgcaikaaTabPlan
namespace Go.Proofs.Ytffcfambgcaikaa
open Go.RowKit
set_option linter.unusedVariables false
set_option linter.unusedSimpArgs false
def dA (d : List Int) (k : Nat) : Int := d.getD k 0
def Pl.stOk (p : Pl) (now : Int) (d : List Int) : Bool := p.fits && (decide (d.length = p.n) && (inB now 0 2000 && (decide (dA d 0 = 0) && d.all (fun x => inB x (-1) now))))
/-- the bounds that say what is done, and that the rest is not yet -/
def stB (now : Int) (d : List Int) : Nat → List Bd
  | 0 => []
  | k+1 => stB now d k ++ (if dA d k = -1 then [⟨k, 0, -now⟩] else [⟨0, k, dA d k⟩, ⟨k, 0, -(dA d k)⟩])
def Pl.goes (p : Pl) (now : Int) (d : List Int) : Bool := p.stOk now d && fitB (upT (tab0 (p.bs ++ stB now d d.length)) p.n) p.n
/-- the window of a point, by the first points -/
def winLow (D : Tbl) (now : Int) (d : List Int) (pt : Nat) : Nat → Int
  | 0 => now
  | k+1 => if dA d k ≠ -1 ∧ D pt k < 100000 then max (winLow D now d pt k) (dA d k - D pt k) else winLow D now d pt k
def winHigh (D : Tbl) (d : List Int) (pt : Nat) : Nat → Int
  | 0 => 100000
  | k+1 => if dA d k ≠ -1 ∧ D k pt < 100000 then min (winHigh D d pt k) (dA d k + D k pt) else winHigh D d pt k
def readyTo (D : Tbl) (d : List Int) (pt : Nat) (k : Nat) : Bool := (List.range k).all fun i => !(decide (dA d i = -1) && decide (D pt i < 0))
def deadTo (D : Tbl) (d : List Int) (n : Nat) : Nat → Int
  | 0 => 100000
  | k+1 => if dA d k = -1 then min (deadTo D d n k) (winHigh D d k n) else deadTo D d n k
def readyAt (D : Tbl) (d : List Int) (n k : Nat) : Bool := decide (dA d k = -1) && readyTo D d k n
/-- the first of the ready ones that may be earliest; before there is one: pt, 100000 -/
def bestT (D : Tbl) (now : Int) (d : List Int) (n : Nat) : Nat → Int
  | 0 => 100000
  | k+1 => if readyAt D d n k = true ∧ winLow D now d k n < bestT D now d n k then winLow D now d k n else bestT D now d n k
def bestP (pt : Int) (D : Tbl) (now : Int) (d : List Int) (n : Nat) : Nat → Int
  | 0 => pt
  | k+1 => if readyAt D d n k = true ∧ winLow D now d k n < bestT D now d n k then k else bestP pt D now d n k
theorem winLow_succ (D : Tbl) (now : Int) (d : List Int) (pt k : Nat) : winLow D now d pt (k+1) = if dA d k ≠ -1 ∧ D pt k < 100000 then max (winLow D now d pt k) (dA d k - D pt k) else winLow D now d pt k := rfl
theorem winHigh_succ (D : Tbl) (d : List Int) (pt k : Nat) : winHigh D d pt (k+1) = if dA d k ≠ -1 ∧ D k pt < 100000 then min (winHigh D d pt k) (dA d k + D k pt) else winHigh D d pt k := rfl
theorem deadTo_succ (D : Tbl) (d : List Int) (n k : Nat) : deadTo D d n (k+1) = if dA d k = -1 then min (deadTo D d n k) (winHigh D d k n) else deadTo D d n k := rfl
theorem bestT_succ (D : Tbl) (now : Int) (d : List Int) (n k : Nat) : bestT D now d n (k+1) = if readyAt D d n k = true ∧ winLow D now d k n < bestT D now d n k then winLow D now d k n else bestT D now d n k := rfl
theorem bestP_succ (pt : Int) (D : Tbl) (now : Int) (d : List Int) (n k : Nat) : bestP pt D now d n (k+1) = if readyAt D d n k = true ∧ winLow D now d k n < bestT D now d n k then (k : Int) else bestP pt D now d n k := rfl
theorem winLow_le {D : Tbl} {now : Int} {d : List Int} {pt : Nat} {z : Int} : ∀ n, winLow D now d pt n ≤ z ↔ now ≤ z ∧ ∀ k, k < n → dA d k ≠ -1 → D pt k < 100000 → dA d k - D pt k ≤ z
  | 0 => ⟨fun h => ⟨h, fun k hk => by omega⟩, fun h => h.1⟩
  | n+1 => by
    have ih := @winLow_le D now d pt z n
    have key : winLow D now d pt (n+1) ≤ z ↔ winLow D now d pt n ≤ z ∧ (dA d n ≠ -1 → D pt n < 100000 → dA d n - D pt n ≤ z) := by
      rw [winLow_succ]
      split
      · rename_i h; exact ⟨fun h' => ⟨by omega, fun _ _ => by omega⟩, fun h' => by have := h'.2 h.1 h.2; omega⟩
      · rename_i h; exact ⟨fun h' => ⟨h', fun a b => absurd ⟨a, b⟩ h⟩, fun h' => h'.1⟩
    rw [key, ih]
    constructor
    · rintro ⟨⟨h1, h2⟩, h3⟩
      refine ⟨h1, fun k hk => ?_⟩
      by_cases e : k = n
      · subst e; exact h3
      · exact h2 k (by omega)
    · rintro ⟨h1, h2⟩
      exact ⟨⟨h1, fun k hk => h2 k (by omega)⟩, h2 n (by omega)⟩
theorem le_winHigh {D : Tbl} {d : List Int} {pt : Nat} {z : Int} : ∀ n, z ≤ winHigh D d pt n ↔ z ≤ 100000 ∧ ∀ k, k < n → dA d k ≠ -1 → D k pt < 100000 → z ≤ dA d k + D k pt
  | 0 => ⟨fun h => ⟨h, fun k hk => by omega⟩, fun h => h.1⟩
  | n+1 => by
    have ih := @le_winHigh D d pt z n
    have key : z ≤ winHigh D d pt (n+1) ↔ z ≤ winHigh D d pt n ∧ (dA d n ≠ -1 → D n pt < 100000 → z ≤ dA d n + D n pt) := by
      rw [winHigh_succ]
      split
      · rename_i h; exact ⟨fun h' => ⟨by omega, fun _ _ => by omega⟩, fun h' => by have := h'.2 h.1 h.2; omega⟩
      · rename_i h; exact ⟨fun h' => ⟨h', fun a b => absurd ⟨a, b⟩ h⟩, fun h' => h'.1⟩
    rw [key, ih]
    constructor
    · rintro ⟨⟨h1, h2⟩, h3⟩
      refine ⟨h1, fun k hk => ?_⟩
      by_cases e : k = n
      · subst e; exact h3
      · exact h2 k (by omega)
    · rintro ⟨h1, h2⟩
      exact ⟨⟨h1, fun k hk => h2 k (by omega)⟩, h2 n (by omega)⟩
theorem le_deadTo {D : Tbl} {d : List Int} {n : Nat} {z : Int} : ∀ m, z ≤ deadTo D d n m ↔ z ≤ 100000 ∧ ∀ k, k < m → dA d k = -1 → z ≤ winHigh D d k n
  | 0 => ⟨fun h => ⟨h, fun k hk => by omega⟩, fun h => h.1⟩
  | m+1 => by
    have ih := @le_deadTo D d n z m
    have key : z ≤ deadTo D d n (m+1) ↔ z ≤ deadTo D d n m ∧ (dA d m = -1 → z ≤ winHigh D d m n) := by
      rw [deadTo_succ]
      split
      · rename_i h; exact ⟨fun h' => ⟨by omega, fun _ => by omega⟩, fun h' => by have := h'.2 h; omega⟩
      · rename_i h; exact ⟨fun h' => ⟨h', fun a => absurd a h⟩, fun h' => h'.1⟩
    rw [key, ih]
    constructor
    · rintro ⟨⟨h1, h2⟩, h3⟩
      refine ⟨h1, fun k hk => ?_⟩
      by_cases e : k = m
      · subst e; exact h3
      · exact h2 k (by omega)
    · rintro ⟨h1, h2⟩
      exact ⟨⟨h1, fun k hk => h2 k (by omega)⟩, h2 m (by omega)⟩
theorem readyTo_iff {D : Tbl} {d : List Int} {pt k : Nat} : readyTo D d pt k = true ↔ ∀ i, i < k → dA d i = -1 → 0 ≤ D pt i := by
  simp only [readyTo, List.all_eq_true, List.mem_range, Bool.not_eq_true', Bool.and_eq_false_iff, decide_eq_false_iff_not]
  constructor
  · intro h i hi hd
    have := h i hi
    omega
  · intro h i hi
    by_cases hd : dA d i = -1
    · have := h i hi hd; omega
    · exact .inl hd
theorem readyAt_iff {D : Tbl} {d : List Int} {n k : Nat} : readyAt D d n k = true ↔ dA d k = -1 ∧ ∀ i, i < n → dA d i = -1 → 0 ≤ D k i := by
  simp only [readyAt, Bool.and_eq_true, decide_eq_true_eq, readyTo_iff]
theorem best_is (pt : Int) (D : Tbl) (now : Int) (d : List Int) (n : Nat) : ∀ m,
    bestT D now d n m ≤ 100000 ∧ (∀ k, k < m → readyAt D d n k = true → bestT D now d n m ≤ winLow D now d k n) ∧
    (bestT D now d n m < 100000 → ∃ b, b < m ∧ bestP pt D now d n m = (b : Int) ∧ readyAt D d n b = true ∧ bestT D now d n m = winLow D now d b n)
  | 0 => ⟨Int.le_refl _, fun k hk => by omega, fun h => by simp [bestT] at h⟩
  | m+1 => by
    obtain ⟨h1, h2, h3⟩ := best_is pt D now d n m
    rw [bestT_succ, bestP_succ]
    split
    · rename_i h
      refine ⟨by omega, fun k hk hr => ?_, fun _ => ⟨m, by omega, rfl, h.1, rfl⟩⟩
      by_cases e : k = m
      · subst e; exact Int.le_refl _
      · have := h2 k (by omega) hr; omega
    · rename_i h
      refine ⟨h1, fun k hk hr => ?_, fun hb => ?_⟩
      · by_cases e : k = m
        · subst e
          rcases Int.lt_or_le (winLow D now d k n) (bestT D now d n k) with h' | h'
          · exact absurd ⟨hr, h'⟩ h
          · exact h'
        · exact h2 k (by omega) hr
      · obtain ⟨b, hb1, hb2⟩ := h3 hb
        exact ⟨b, by omega, hb2⟩
theorem best_pt (pt pt' : Int) (D : Tbl) (now : Int) (d : List Int) (n m : Nat) (h : bestT D now d n m < 100000) : bestP pt D now d n m = bestP pt' D now d n m := by
  induction m with
  | zero => simp [bestT] at h
  | succ m ih =>
    rw [bestP_succ, bestP_succ]
    rw [bestT_succ] at h
    split
    · rfl
    · rename_i h'
      refine ih ?_
      rw [if_neg h'] at h
      exact h
theorem winLow_ge {D : Tbl} {now : Int} {d : List Int} {pt n : Nat} : now ≤ winLow D now d pt n := ((winLow_le n).1 (Int.le_refl _)).1
/-! ### solutions: times of all points that keep the plan, with those that are done, the rest not before now -/
def Sol (p : Pl) (now : Int) (d : List Int) (x : Nat → Int) : Prop :=
  (∀ b ∈ p.bs, x b.t.toNat ≤ x b.f.toNat + b.m) ∧ (∀ k, k < p.n → dA d k = -1 → now ≤ x k) ∧ ∀ k, k < p.n → dA d k ≠ -1 → x k = dA d k
theorem pot_bs {n : Nat} {bs : List Bd} {x : Nat → Int} (h : ∀ b ∈ bs, x b.t.toNat ≤ x b.f.toNat + b.m) : Pot (tab0 bs) n (fun _ => True) x := fun i j hi hj _ hD => by
  refine ⟨trivial, ?_⟩
  have : min (x j - x i) 100000 ≤ tab0 bs i j := le_tab0.2 ⟨by
    split
    · rename_i e; subst e; omega
    · omega, fun b hb hf ht => by
    have := h b hb
    rw [hf, ht, Int.toNat_natCast, Int.toNat_natCast] at this
    omega⟩
  omega
theorem bs_pot {n : Nat} {lo hi : Int} {bs : List Bd} {D : Tbl} {x : Nat → Int} (hin : BdsIn n lo hi bs) (hhi : hi < 100000) (hD : ∀ i j, i < n → j < n → D i j ≤ tab0 bs i j) (h : ∀ i j, i < n → j < n → D i j < 100000 → x j ≤ x i + D i j) : ∀ b ∈ bs, x b.t.toNat ≤ x b.f.toNat + b.m := fun b hb => by
  obtain ⟨⟨f, hf, hfn⟩, ⟨t, ht, htn⟩, hm1, hm2⟩ := in_mem hin hb
  have h1 := (le_tab0.1 (Int.le_refl (tab0 bs f t))).2 b hb hf ht
  have h2 := hD f t hfn htn
  have := h f t hfn htn (by omega)
  rw [hf, ht, Int.toNat_natCast, Int.toNat_natCast]
  omega
theorem stB_succ (now : Int) (d : List Int) (k : Nat) : stB now d (k+1) = stB now d k ++ (if dA d k = -1 then [⟨k, 0, -now⟩] else [⟨0, k, dA d k⟩, ⟨k, 0, -(dA d k)⟩]) := rfl
theorem mem_stB {now : Int} {d : List Int} {b : Bd} : ∀ n, b ∈ stB now d n ↔ ∃ k, k < n ∧ ((dA d k = -1 ∧ b = ⟨k, 0, -now⟩) ∨ (dA d k ≠ -1 ∧ (b = ⟨0, k, dA d k⟩ ∨ b = ⟨k, 0, -(dA d k)⟩)))
  | 0 => ⟨fun h => (by cases h), fun ⟨k, hk, _⟩ => by omega⟩
  | n+1 => by
    rw [stB_succ]
    rw [List.mem_append, mem_stB n]
    constructor
    · rintro (⟨k, hk, h⟩ | h)
      · exact ⟨k, by omega, h⟩
      · refine ⟨n, by omega, ?_⟩
        split at h
        · rename_i e; exact .inl ⟨e, List.mem_singleton.1 h⟩
        · rename_i e
          rcases List.mem_cons.1 h with h | h
          · exact .inr ⟨e, .inl h⟩
          · exact .inr ⟨e, .inr (List.mem_singleton.1 h)⟩
    · rintro ⟨k, hk, h⟩
      by_cases e : k = n
      · subst e
        refine .inr ?_
        rcases h with ⟨h1, rfl⟩ | ⟨h1, rfl | rfl⟩
        · rw [if_pos h1]; exact List.mem_singleton.2 rfl
        · rw [if_neg h1]; exact List.mem_cons_self
        · rw [if_neg h1]; exact List.mem_cons_of_mem _ (List.mem_singleton.2 rfl)
      · exact .inl ⟨k, by omega, h⟩
theorem stB_length (now : Int) (d : List Int) : ∀ n, (stB now d n).length ≤ 2 * n
  | 0 => Nat.le_refl _
  | n+1 => by
    have := stB_length now d n
    rw [stB_succ]
    rw [List.length_append]
    split <;> simp <;> omega
theorem st_in {p : Pl} {now : Int} {d : List Int} (h : p.stOk now d = true) : p.fits = true ∧ d.length = p.n ∧ (0 ≤ now ∧ now ≤ 2000) ∧ dA d 0 = 0 ∧ ∀ k, k < p.n → -1 ≤ dA d k ∧ dA d k ≤ now := by
  simp only [Pl.stOk, Bool.and_eq_true, decide_eq_true_eq, List.all_eq_true, inB_iff] at h
  obtain ⟨h1, h2, h3, h4, h5⟩ := h
  refine ⟨h1, h2, h3, h4, fun k hk => ?_⟩
  have hk' : k < d.length := by omega
  exact h5 (dA d k) (by unfold dA; rw [List.getD_eq_getElem?_getD, List.getElem?_eq_getElem hk']; exact List.getElem_mem hk')
theorem st_mk {p : Pl} {now : Int} {d : List Int} (h1 : p.fits = true) (h2 : d.length = p.n) (h3 : 0 ≤ now ∧ now ≤ 2000) (h4 : dA d 0 = 0) (h5 : ∀ k, k < p.n → -1 ≤ dA d k ∧ dA d k ≤ now) : p.stOk now d = true := by
  simp only [Pl.stOk, Bool.and_eq_true, decide_eq_true_eq, List.all_eq_true, inB_iff]
  refine ⟨h1, h2, h3, h4, fun x hx => ?_⟩
  obtain ⟨k, hk, rfl⟩ := List.mem_iff_getElem.1 hx
  have := h5 k (by omega)
  unfold dA at this
  rw [List.getD_eq_getElem?_getD, List.getElem?_eq_getElem hk] at this
  exact this
theorem BdsIn.of_mem {n : Nat} {lo hi : Int} {bs : List Bd} (h : ∀ b ∈ bs, (∃ f : Nat, b.f = (f : Int) ∧ f < n) ∧ (∃ t : Nat, b.t = (t : Int) ∧ t < n) ∧ lo ≤ b.m ∧ b.m ≤ hi) : BdsIn n lo hi bs := fun k hk => by
  rw [List.getD_eq_getElem?_getD, List.getElem?_eq_getElem hk]
  exact h _ (List.getElem_mem hk)
theorem stB_in {p : Pl} {now : Int} {d : List Int} (h : p.stOk now d = true) (k : Nat) (hk : k ≤ p.n) : BdsIn p.n (-2000) 2000 (p.bs ++ stB now d k) := by
  obtain ⟨h1, h2, h3, h4, h5⟩ := st_in h
  obtain ⟨q1, q2, q3, q4, q5⟩ := plok_in (fits_ok h1).1
  refine BdsIn.of_mem fun b hb => ?_
  rcases List.mem_append.1 hb with hb | hb
  · obtain ⟨a1, a2, a3, a4⟩ := in_mem q5 hb
    exact ⟨a1, a2, by omega, by omega⟩
  · obtain ⟨i, hi, ⟨e, rfl⟩ | ⟨e, rfl | rfl⟩⟩ := (mem_stB k).1 hb
    · exact ⟨⟨i, rfl, by omega⟩, ⟨0, rfl, by omega⟩, by dsimp only; omega, by dsimp only; omega⟩
    · have := h5 i (by omega)
      exact ⟨⟨0, rfl, by omega⟩, ⟨i, rfl, by omega⟩, by dsimp only; omega, by dsimp only; omega⟩
    · have := h5 i (by omega)
      exact ⟨⟨i, rfl, by omega⟩, ⟨0, rfl, by omega⟩, by dsimp only; omega, by dsimp only; omega⟩
/-- no finite way reaches Far, where each point has a way to the first one that is at most 0 -/
theorem up_high0 {D : Tbl} {n : Nat} {u : Int} (hu : 0 ≤ u) (hn : 0 < n) (h0 : ∀ i, i < n → D i 0 ≤ 0) (h : ∀ i j, i < n → j < n → D i j < 100000 → D i j ≤ u) : ∀ k, k + 1 ≤ n → ∀ i j, i < n → j < n → upT D (k+1) i j < 100000 → upT D (k+1) i j ≤ u * 2 ^ k
  | 0, hk, i, j, hi, hj, hd => by
    have e : u * (2 : Int) ^ 0 = u := by rw [Int.pow_zero, Int.mul_one]
    rw [e]
    change nextT 0 D i j < 100000 at hd
    show nextT 0 D i j ≤ u
    rcases nextT_or 0 D i j with e' | ⟨a, b, e'⟩
    · have := h i j hi hj (by omega); omega
    · have := h0 i hi
      have := h 0 j hn hj b
      omega
  | k+1, hk, i, j, hi, hj, hd => by
    have ih := up_high0 hu hn h0 h k (by omega)
    have e : u * (2 : Int) ^ (k+1) = u * 2 ^ k + u * 2 ^ k := by rw [Int.pow_succ, ← Int.mul_assoc]; omega
    have hp : (0 : Int) ≤ u * 2 ^ k := Int.mul_nonneg hu (Int.le_of_lt (Int.pow_pos (by decide)))
    rw [e]
    change nextT (k+1) (upT D (k+1)) i j < 100000 at hd
    show nextT (k+1) (upT D (k+1)) i j ≤ _
    rcases nextT_or (k+1) (upT D (k+1)) i j with e' | ⟨a, b, e'⟩
    · have := ih i j hi hj (by omega); omega
    · have := ih i (k+1) hi (by omega) a
      have := ih (k+1) j (by omega) hj b
      omega
theorem nosat_state {D : Tbl} {n : Nat} (hn : n ≤ 6) (h0 : ∀ i, i < n → D i 0 ≤ 0) (h : ∀ i j, i < n → j < n → D i j < 100000 → D i j ≤ 2000) : NoSat D n := by
  intro k hk i j hi hj h1 h2
  cases k with
  | zero =>
    have := h0 i hi
    have := h 0 j hk hj h2
    show D i 0 + D 0 j < 100000
    omega
  | succ k =>
    have a := up_high0 (u := 2000) (by decide) (by omega) h0 h k (by omega) i (k+1) hi hk h1
    have b := up_high0 (u := 2000) (by decide) (by omega) h0 h k (by omega) (k+1) j hk hj h2
    have key : ∀ m : Fin 5, (2 : Int) ^ m.val ≤ 16 := by decide
    have p := key ⟨k, by omega⟩
    dsimp only at p
    omega
theorem goes_iff {p : Pl} {now : Int} {d : List Int} (h : p.stOk now d = true) : p.goes now d = true ↔ ∃ x, Sol p now d x := by
  obtain ⟨h1, h2, h3, h4, h5⟩ := st_in h
  obtain ⟨q1, q2, q3, q4, q5⟩ := plok_in (fits_ok h1).1
  have hin := stB_in h p.n (Nat.le_refl _)
  simp only [Pl.goes, h, Bool.true_and, h2, fitB_iff]
  have hto0 : ∀ i, i < p.n → tab0 (p.bs ++ stB now d p.n) i 0 ≤ 0 := fun i hi => by
    by_cases e : dA d i = -1
    · have := (le_tab0.1 (Int.le_refl (tab0 (p.bs ++ stB now d p.n) i 0))).2 ⟨i, 0, -now⟩ (List.mem_append.2 (.inr ((mem_stB _).2 ⟨i, hi, .inl ⟨e, rfl⟩⟩))) rfl rfl
      dsimp only at this; omega
    · have := (le_tab0.1 (Int.le_refl (tab0 (p.bs ++ stB now d p.n) i 0))).2 ⟨i, 0, -(dA d i)⟩ (List.mem_append.2 (.inr ((mem_stB _).2 ⟨i, hi, .inr ⟨e, .inr rfl⟩⟩))) rfl rfl
      have := h5 i hi
      dsimp only at *; omega
  constructor
  · intro hf
    have hs : NoSat (tab0 (p.bs ++ stB now d p.n)) p.n := nosat_state q3 hto0 fun i j _ _ hlt => tab0_high hin (by decide) i j hlt
    have hc := closed_of hs hf
    have hz : upT (tab0 (p.bs ++ stB now d p.n)) p.n 0 0 = 0 := diag_zero (fun i _ => tab0_diag _ i) hf 0 (by omega)
    have hfin : ∀ i, i < p.n → upT (tab0 (p.bs ++ stB now d p.n)) p.n i 0 ≤ 0 := fun i hi => Int.le_trans (upT_le _ _ _ _) (hto0 i hi)
    have hall : ∀ b ∈ p.bs ++ stB now d p.n, (fun k => -(upT (tab0 (p.bs ++ stB now d p.n)) p.n k 0)) b.t.toNat ≤ (fun k => -(upT (tab0 (p.bs ++ stB now d p.n)) p.n k 0)) b.f.toNat + b.m :=
      bs_pot (D := upT (tab0 (p.bs ++ stB now d p.n)) p.n) (x := fun k => -(upT (tab0 (p.bs ++ stB now d p.n)) p.n k 0)) hin (by decide) (fun i j _ _ => upT_le _ _ _ _) fun i j hi hj hD => by
        have := (hc j hj i 0 hi (by omega) hD (by have := hfin j hj; omega)).1
        omega
    refine ⟨fun k => -(upT (tab0 (p.bs ++ stB now d p.n)) p.n k 0), fun b hb => hall b (List.mem_append.2 (.inl hb)), fun k hk e => ?_, fun k hk e => ?_⟩
    · have := hall ⟨k, 0, -now⟩ (List.mem_append.2 (.inr ((mem_stB _).2 ⟨k, hk, .inl ⟨e, rfl⟩⟩)))
      simp only [Int.toNat_natCast, Int.toNat_zero] at this
      show now ≤ -(upT (tab0 (p.bs ++ stB now d p.n)) p.n k 0)
      omega
    · have a := hall ⟨k, 0, -(dA d k)⟩ (List.mem_append.2 (.inr ((mem_stB _).2 ⟨k, hk, .inr ⟨e, .inr rfl⟩⟩)))
      have b := hall ⟨0, k, dA d k⟩ (List.mem_append.2 (.inr ((mem_stB _).2 ⟨k, hk, .inr ⟨e, .inl rfl⟩⟩)))
      simp only [Int.toNat_natCast, Int.toNat_zero] at a b
      show -(upT (tab0 (p.bs ++ stB now d p.n)) p.n k 0) = dA d k
      omega
  · rintro ⟨x, s1, s2, s3⟩
    have hx0 : x 0 = 0 := by rw [s3 0 (by omega) (by omega)]; exact h4
    have hall : ∀ b ∈ p.bs ++ stB now d p.n, x b.t.toNat ≤ x b.f.toNat + b.m := fun b hb => by
      rcases List.mem_append.1 hb with hb | hb
      · exact s1 b hb
      · obtain ⟨i, hi, ⟨e, rfl⟩ | ⟨e, rfl | rfl⟩⟩ := (mem_stB _).1 hb
        · have := s2 i hi e
          simp only [Int.toNat_natCast, Int.toNat_zero]; omega
        · have := s3 i hi e
          simp only [Int.toNat_natCast, Int.toNat_zero]; omega
        · have := s3 i hi e
          simp only [Int.toNat_natCast, Int.toNat_zero]; omega
    exact fits_of_pots (fun i _ => tab0_diag _ i) fun i hi => ⟨fun _ => True, x, pot_bs hall, trivial⟩
theorem Sol.clo {p : Pl} {now : Int} {d : List Int} {x : Nat → Int} (h : Sol p now d x) {i j : Nat} (hi : i < p.n) (hj : j < p.n) (hD : p.clo i j < 100000) : x j ≤ x i + p.clo i j :=
  (pot_up (pot_bs h.1) p.n (Nat.le_refl _) i j hi hj trivial hD).2
theorem fits_closed {p : Pl} (h : p.fits = true) : Closed p.clo p.n ∧ ∀ i, i < p.n → p.clo i i = 0 := by
  obtain ⟨h1, h2⟩ := fits_ok h
  obtain ⟨q1, q2, q3, q4, q5⟩ := plok_in h1
  exact ⟨closed_of (tab_nosat q3 q5) h2, diag_zero (fun i _ => tab0_diag _ i) h2⟩
/-- the earliest times, by a table and what is done, from a time on -/
def gA (T : Int) (d : List Int) (k : Nat) : Int := if dA d k = -1 then T else dA d k
def earl (D : Tbl) (T : Int) (d : List Int) (l : Nat) : Nat → Int
  | 0 => T
  | k+1 => if D l k < 100000 then max (earl D T d l k) (gA T d k - D l k) else earl D T d l k
theorem earl_succ (D : Tbl) (T : Int) (d : List Int) (l k : Nat) : earl D T d l (k+1) = if D l k < 100000 then max (earl D T d l k) (gA T d k - D l k) else earl D T d l k := rfl
theorem earl_le {D : Tbl} {T : Int} {d : List Int} {l : Nat} {z : Int} : ∀ n, earl D T d l n ≤ z ↔ T ≤ z ∧ ∀ k, k < n → D l k < 100000 → gA T d k - D l k ≤ z
  | 0 => ⟨fun h => ⟨h, fun k hk => by omega⟩, fun h => h.1⟩
  | n+1 => by
    have ih := @earl_le D T d l z n
    have key : earl D T d l (n+1) ≤ z ↔ earl D T d l n ≤ z ∧ (D l n < 100000 → gA T d n - D l n ≤ z) := by
      rw [earl_succ]
      split
      · rename_i h; exact ⟨fun h' => ⟨by omega, fun _ => by omega⟩, fun h' => by have := h'.2 h; omega⟩
      · rename_i h; exact ⟨fun h' => ⟨h', fun a => absurd a h⟩, fun h' => h'.1⟩
    rw [key, ih]
    constructor
    · rintro ⟨⟨h1, h2⟩, h3⟩
      refine ⟨h1, fun k hk => ?_⟩
      by_cases e : k = n
      · subst e; exact h3
      · exact h2 k (by omega)
    · rintro ⟨h1, h2⟩
      exact ⟨⟨h1, fun k hk => h2 k (by omega)⟩, h2 n (by omega)⟩
/-- a state that goes on goes on later, up to the deadline -/
theorem sol_later {p : Pl} {now T : Int} {d : List Int} {x : Nat → Int} (hf : p.fits = true) (hx : Sol p now d x)
    (hT : ∀ i k, i < p.n → k < p.n → dA d i ≠ -1 → dA d k = -1 → p.clo i k < 100000 → T ≤ dA d i + p.clo i k) :
    Sol p T d (fun l => if dA d l = -1 then earl p.clo T d l p.n else dA d l) := by
  obtain ⟨hc, hz⟩ := fits_closed hf
  obtain ⟨q1, q2, q3, q4, q5⟩ := plok_in (fits_ok hf).1
  refine ⟨bs_pot (D := p.clo) (x := fun l => if dA d l = -1 then earl p.clo T d l p.n else dA d l) q5 (by decide) (fun i j _ _ => upT_le _ _ _ _) fun i j hi hj hD => ?_, fun k hk e => ?_, fun k hk e => if_neg e⟩
  · have up := fun z => (@earl_le p.clo T d i z p.n).1
    have upi := up _ (Int.le_refl _)
    by_cases ei : dA d i = -1 <;> by_cases ej : dA d j = -1
    · rw [if_pos ei, if_pos ej]
      refine (earl_le p.n).2 ⟨?_, fun k hk hjk => ?_⟩
      · have := upi.2 j hj hD
        unfold gA at this; rw [if_pos ej] at this; omega
      · have c := hc j hj i k hi hk hD hjk
        have := upi.2 k hk c.2
        omega
    · rw [if_pos ei, if_neg ej]
      have := upi.2 j hj hD
      unfold gA at this; rw [if_neg ej] at this; omega
    · rw [if_neg ei, if_pos ej]
      refine (earl_le p.n).2 ⟨hT i j hi hj ei ej hD, fun k hk hjk => ?_⟩
      have c := hc j hj i k hi hk hD hjk
      unfold gA
      by_cases ek : dA d k = -1
      · rw [if_pos ek]
        have := hT i k hi hk ei ek c.2
        omega
      · rw [if_neg ek]
        have := hx.clo hi hk c.2
        rw [hx.2.2 i hi ei, hx.2.2 k hk ek] at this
        omega
    · rw [if_neg ei, if_neg ej]
      have := hx.clo hi hj hD
      rw [hx.2.2 i hi ei, hx.2.2 j hj ej] at this
      omega
  · show T ≤ if dA d k = -1 then earl p.clo T d k p.n else dA d k
    rw [if_pos e]
    exact ((earl_le (z := earl p.clo T d k p.n) p.n).1 (Int.le_refl _)).1
/-- and not beyond -/
theorem sol_by {p : Pl} {now : Int} {d : List Int} {x : Nat → Int} (hx : Sol p now d x) {i k : Nat} (hi : i < p.n) (hk : k < p.n) (ei : dA d i ≠ -1) (ek : dA d k = -1) (hD : p.clo i k < 100000) : now ≤ dA d i + p.clo i k := by
  have a := hx.clo hi hk hD
  have b := hx.2.1 k hk ek
  rw [hx.2.2 i hi ei] at a
  omega
theorem dead_iff {p : Pl} {d : List Int} {z : Int} : z ≤ deadTo p.clo d p.n p.n ↔ z ≤ 100000 ∧ ∀ i k, i < p.n → k < p.n → dA d i ≠ -1 → dA d k = -1 → p.clo i k < 100000 → z ≤ dA d i + p.clo i k := by
  rw [le_deadTo]
  constructor
  · rintro ⟨h1, h2⟩
    exact ⟨h1, fun i k hi hk ei ek hD => ((le_winHigh p.n).1 (h2 k hk ek)).2 i hi ei hD⟩
  · rintro ⟨h1, h2⟩
    exact ⟨h1, fun k hk ek => (le_winHigh p.n).2 ⟨h1, fun i hi ei hD => h2 i k hi hk ei ek hD⟩⟩
theorem st_at {p : Pl} {now T : Int} {d : List Int} (h : p.stOk now d = true) (h1 : now ≤ T) (h2 : T ≤ 2000) : p.stOk T d = true := by
  obtain ⟨a1, a2, a3, a4, a5⟩ := st_in h
  exact st_mk a1 a2 (by omega) a4 fun k hk => by have := a5 k hk; omega
theorem goes_later {p : Pl} {now T : Int} {d : List Int} (h : p.stOk now d = true) (hg : p.goes now d = true) (h1 : now ≤ T) (h2 : T ≤ 2000) : p.goes T d = true ↔ T ≤ deadTo p.clo d p.n p.n := by
  obtain ⟨x, hx⟩ := (goes_iff h).1 hg
  rw [goes_iff (st_at h h1 h2), dead_iff]
  constructor
  · rintro ⟨y, hy⟩
    exact ⟨by omega, fun i k hi hk ei ek hD => sol_by hy hi hk ei ek hD⟩
  · rintro ⟨-, h3⟩
    exact ⟨_, sol_later (st_in h).1 hx h3⟩
theorem dead_now {p : Pl} {now : Int} {d : List Int} (h : p.stOk now d = true) (hg : p.goes now d = true) : now ≤ deadTo p.clo d p.n p.n :=
  (goes_later h hg (Int.le_refl _) (st_in h).2.2.1.2).1 hg
theorem low_of {P : Nat → Prop} [DecidablePred P] (f : Nat → Int) : ∀ n, (∃ i, i < n ∧ P i) → ∃ j, j < n ∧ P j ∧ ∀ i, i < n → P i → f j ≤ f i
  | 0, ⟨i, hi, _⟩ => by omega
  | n+1, ⟨i, hi, hp⟩ => by
    by_cases h : ∃ i, i < n ∧ P i
    · obtain ⟨j, hj, hpj, hm⟩ := low_of f n h
      by_cases hn : P n ∧ f n < f j
      · refine ⟨n, by omega, hn.1, fun k hk hpk => ?_⟩
        by_cases hkn : k = n
        · subst hkn; exact Int.le_refl _
        · have := hm k (by omega) hpk; omega
      · refine ⟨j, by omega, hpj, fun k hk hpk => ?_⟩
        by_cases hkn : k = n
        · subst hkn
          by_cases h2 : f k < f j
          · exact absurd ⟨hpk, h2⟩ hn
          · omega
        · exact hm k (by omega) hpk
    · have hin : i = n := by
        by_cases h2 : i = n
        · exact h2
        · exact absurd ⟨i, by omega, hp⟩ h
      subst hin
      refine ⟨i, by omega, hp, fun k hk hpk => ?_⟩
      by_cases hkn : k = i
      · subst hkn; exact Int.le_refl _
      · exact absurd ⟨k, by omega, hpk⟩ h
/-- whatever is not done, a ready one may be no later -/
theorem ready_le {p : Pl} {now : Int} {d : List Int} {x : Nat → Int} (hx : Sol p now d x) {l : Nat} (hl : l < p.n) (el : dA d l = -1) :
    ∃ r, r < p.n ∧ dA d r = -1 ∧ readyAt p.clo d p.n r = true ∧ x r ≤ x l ∧ winLow p.clo now d r p.n ≤ x r := by
  obtain ⟨r, hr, er, hm⟩ := low_of (P := fun k => dA d k = -1) x p.n ⟨l, hl, el⟩
  refine ⟨r, hr, er, readyAt_iff.2 ⟨er, fun k hk ek => ?_⟩, hm l hl el, (winLow_le p.n).2 ⟨hx.2.1 r hr er, fun k hk ek hD => ?_⟩⟩
  · rcases Int.lt_or_le (p.clo r k) 0 with h | h
    · have := hx.clo hr hk (by omega)
      have := hm k hk ek
      omega
    · exact h
  · have := hx.clo hr hk hD
    rw [hx.2.2 k hk ek] at this
    omega
theorem dA_set {d : List Int} {b k : Nat} {T : Int} (hb : b < d.length) : dA (d.set b T) k = if k = b then T else dA d k := by
  unfold dA
  rw [List.getD_eq_getElem?_getD, List.getElem?_set, List.getD_eq_getElem?_getD]
  by_cases e : b = k
  · subst e; rw [if_pos rfl, if_pos hb, if_pos rfl]; rfl
  · rw [if_neg e, if_neg (fun h => e h.symm)]
theorem sol_done {p : Pl} {T : Int} {d : List Int} {y : Nat → Int} (hd : d.length = p.n) (hy : Sol p T d y) {b : Nat} (hb : b < p.n) (eb : y b = T) (hT : 0 ≤ T) : Sol p T (d.set b T) y := by
  refine ⟨hy.1, fun k hk e => ?_, fun k hk e => ?_⟩
  · rw [dA_set (by omega)] at e
    split at e
    · omega
    · exact hy.2.1 k hk e
  · rw [dA_set (by omega)] at e ⊢
    split
    · rename_i h; rw [h]; exact eb
    · rename_i h
      rw [if_neg h] at e
      exact hy.2.2 k hk e
theorem st_done {p : Pl} {now T : Int} {d : List Int} (h : p.stOk now d = true) (h1 : now ≤ T) (h2 : T ≤ 2000) {b : Nat} (hb : b < p.n) (hb0 : b ≠ 0) : p.stOk T (d.set b T) = true := by
  obtain ⟨a1, a2, a3, a4, a5⟩ := st_in h
  refine st_mk a1 (by rw [List.length_set]; exact a2) (by omega) ?_ fun k hk => ?_
  · rw [dA_set (by omega), if_neg (fun e => hb0 e.symm)]; exact a4
  · rw [dA_set (by omega)]
    have := a5 k hk
    split <;> omega
/-- what may be next breaks nothing -/
theorem next_goes {p : Pl} {now : Int} {d : List Int} (pt : Int) (h : p.stOk now d = true) (hg : p.goes now d = true) (hb : bestT p.clo now d p.n p.n ≤ 2000) {x : Nat → Int} (hx : Sol p now d x) :
    ∃ b : Nat, b < p.n ∧ bestP pt p.clo now d p.n p.n = (b : Int) ∧ b ≠ 0 ∧ dA d b = -1 ∧ now ≤ bestT p.clo now d p.n p.n ∧ bestT p.clo now d p.n p.n ≤ x b ∧
      p.stOk (bestT p.clo now d p.n p.n) (d.set b (bestT p.clo now d p.n p.n)) = true ∧ bestT p.clo now d p.n p.n ≤ deadTo p.clo d p.n p.n ∧
      ∃ y, Sol p (bestT p.clo now d p.n p.n) (d.set b (bestT p.clo now d p.n p.n)) y ∧ ∀ k, k < p.n → dA d k = -1 → y k ≤ x k := by
  obtain ⟨a1, a2, a3, a4, a5⟩ := st_in h
  obtain ⟨b1, b2, b3⟩ := best_is pt p.clo now d p.n p.n
  obtain ⟨b, hbn, hbp, hrb, hbt⟩ := b3 (by omega)
  obtain ⟨rb1, rb2⟩ := readyAt_iff.1 hrb
  obtain ⟨T, hT⟩ : ∃ T, T = bestT p.clo now d p.n p.n := ⟨_, rfl⟩
  rw [← hT] at hb hbt b2 ⊢
  have hnow : now ≤ T := by rw [hbt]; exact winLow_ge
  have hle : ∀ l, l < p.n → dA d l = -1 → T ≤ x l := fun l hl el => by
    obtain ⟨r, hr, er, hra, hrx, hrw⟩ := ready_le hx hl el
    have := b2 r hr hra
    omega
  have hT3 : ∀ i k, i < p.n → k < p.n → dA d i ≠ -1 → dA d k = -1 → p.clo i k < 100000 → T ≤ dA d i + p.clo i k := fun i k hi hk ei ek hD => by
    have := hle k hk ek
    have := hx.clo hi hk hD
    rw [hx.2.2 i hi ei] at this
    omega
  have hb0 : b ≠ 0 := by intro e; subst e; omega
  have hs := sol_later a1 hx hT3
  refine ⟨b, hbn, hbp, hb0, rb1, hnow, hle b hbn rb1, st_done h hnow hb hbn hb0, dead_iff.2 ⟨by omega, hT3⟩, _, sol_done a2 hs hbn ?_ (by omega), fun k hk ek => ?_⟩
  · rw [if_pos rb1]
    refine Int.le_antisymm ((earl_le p.n).2 ⟨Int.le_refl _, fun k hk hD => ?_⟩) ((earl_le p.n).1 (Int.le_refl _)).1
    unfold gA
    by_cases ek : dA d k = -1
    · rw [if_pos ek]; have := rb2 k hk ek; omega
    · rw [if_neg ek]
      have := ((winLow_le p.n).1 (Int.le_of_eq hbt.symm)).2 k hk ek hD
      exact this
  · rw [if_pos ek]
    refine (earl_le p.n).2 ⟨hle k hk ek, fun j hj hD => ?_⟩
    have hx2 := hx.clo hk hj hD
    unfold gA
    by_cases ej : dA d j = -1
    · rw [if_pos ej]; have := hle j hj ej; omega
    · rw [if_neg ej]; rw [hx.2.2 j hj ej] at hx2; omega
/-! ### solutions that are not far off -/
def cnt (P : Nat → Bool) : Nat → Nat
  | 0 => 0
  | t+1 => cnt P t + if P t then 1 else 0
theorem cnt_succ (P : Nat → Bool) (t : Nat) : cnt P (t+1) = cnt P t + if P t then 1 else 0 := rfl
theorem cnt_lip (P : Nat → Bool) (a : Nat) : ∀ k, cnt P a ≤ cnt P (a + k) ∧ cnt P (a + k) ≤ cnt P a + k
  | 0 => ⟨Nat.le_refl _, Nat.le_refl _⟩
  | k+1 => by
    have := cnt_lip P a k
    show cnt P a ≤ cnt P ((a + k) + 1) ∧ cnt P ((a + k) + 1) ≤ cnt P a + (k + 1)
    rw [cnt_succ]
    split <;> omega
theorem cnt_full (P : Nat → Bool) (a : Nat) : ∀ k, (∀ t, a ≤ t → t < a + k → P t = true) → cnt P (a + k) = cnt P a + k
  | 0, _ => rfl
  | k+1, h => by
    have ih := cnt_full P a k fun t h1 h2 => h t h1 (by omega)
    show cnt P ((a + k) + 1) = cnt P a + (k + 1)
    rw [cnt_succ]
    rw [if_pos (h (a + k) (by omega) (by omega)), ih]
    omega
theorem cnt_or (P R Q : Nat → Bool) (h : ∀ t, P t = true → R t = true ∨ Q t = true) : ∀ t, cnt P t ≤ cnt R t + cnt Q t
  | 0 => Nat.le_refl _
  | t+1 => by
    have ih := cnt_or P R Q h t
    have := h t
    rw [cnt_succ, cnt_succ, cnt_succ]
    by_cases hp : P t = true
    · rcases h t hp with h' | h'
      · rw [if_pos hp, if_pos h']; split <;> omega
      · rw [if_pos hp, if_pos h']; split <;> omega
    · rw [if_neg hp]; omega
theorem cnt_win (now z : Int) : ∀ t : Nat, (cnt (fun t => decide (z - 98 ≤ now + 1 + (t : Int)) && decide (now + 1 + (t : Int) ≤ z)) t : Int) ≤ max 0 (min (now + (t : Int)) z - (z - 99)) 
  | 0 => by show ((0 : Nat) : Int) ≤ _; omega
  | t+1 => by
    have ih := cnt_win now z t
    rw [cnt_succ]
    by_cases h : z - 98 ≤ now + 1 + (t : Int) ∧ now + 1 + (t : Int) ≤ z
    · rw [if_pos (by simp [h.1, h.2])]; push_cast; omega
    · rw [if_neg (by simp only [Bool.and_eq_true, decide_eq_true_eq]; exact h)]; push_cast; omega
theorem cnt_any (now : Int) (x : Nat → Int) (c : Nat → Bool) : ∀ L : List Nat, ∀ t, (cnt (fun t => L.any fun m => c m && (decide (x m - 98 ≤ now + 1 + (t : Int)) && decide (now + 1 + (t : Int) ≤ x m))) t : Int) ≤ 99 * L.length
  | [], t => by
    have : ∀ t, cnt (fun t => ([] : List Nat).any fun m => c m && (decide (x m - 98 ≤ now + 1 + (t : Int)) && decide (now + 1 + (t : Int) ≤ x m))) t = 0 := by
      intro t
      induction t with
      | zero => rfl
      | succ t ih => rw [cnt_succ, ih]; rfl
    rw [this]; simp
  | m :: L, t => by
    have ih := cnt_any now x c L t
    have h1 := cnt_win now (x m) t
    have h2 := cnt_or (fun t => (m :: L).any fun m => c m && (decide (x m - 98 ≤ now + 1 + (t : Int)) && decide (now + 1 + (t : Int) ≤ x m))) (fun t => decide (x m - 98 ≤ now + 1 + (t : Int)) && decide (now + 1 + (t : Int) ≤ x m)) (fun t => L.any fun m => c m && (decide (x m - 98 ≤ now + 1 + (t : Int)) && decide (now + 1 + (t : Int) ≤ x m))) (fun t h => by
      rw [List.any_cons, Bool.or_eq_true] at h
      rcases h with h | h
      · rw [Bool.and_eq_true] at h; exact .inl h.2
      · exact .inr h) t
    rw [List.length_cons]
    push_cast
    omega
/-- the plan goes on within 495 units -/
theorem sol_near {p : Pl} {now : Int} {d : List Int} {x : Nat → Int} (h : p.stOk now d = true) (hx : Sol p now d x) : ∃ y, Sol p now d y ∧ ∀ k, k < p.n → dA d k = -1 → y k ≤ now + 495 := by
  obtain ⟨a1, a2, a3, a4, a5⟩ := st_in h
  obtain ⟨q1, q2, q3, q4, q5⟩ := plok_in (fits_ok a1).1
  obtain ⟨P, hP⟩ : ∃ P : Nat → Bool, P = fun (t : Nat) => (List.range (p.n - 1)).any fun m => decide (dA d (m + 1) = -1) && (decide (x (m + 1) - 98 ≤ now + 1 + (t : Int)) && decide (now + 1 + (t : Int) ≤ x (m + 1))) := ⟨_, rfl⟩
  have hin : ∀ f, f < p.n → dA d f = -1 → ∀ t : Nat, x f - 98 ≤ now + 1 + (t : Int) → now + 1 + (t : Int) ≤ x f → P t = true := fun f hf ef t h1 h2 => by
    rw [hP]
    have hf0 : f ≠ 0 := by intro e; subst e; omega
    refine List.any_eq_true.2 ⟨f - 1, List.mem_range.2 (by omega), ?_⟩
    have e : f - 1 + 1 = f := by omega
    rw [e]
    simp only [Bool.and_eq_true, decide_eq_true_eq]
    exact ⟨ef, h1, h2⟩
  have hcap : ∀ t, (cnt P t : Int) ≤ 495 := fun t => by
    have := cnt_any now (fun m => x (m + 1)) (fun m => decide (dA d (m + 1) = -1)) (List.range (p.n - 1)) t
    rw [List.length_range] at this
    rw [hP]
    omega
  have hval : ∀ f, f < p.n → now < x f → dA d f = -1 := fun f hf hlt => by
    by_cases e : dA d f = -1
    · exact e
    · have := hx.2.2 f hf e; have := a5 f hf; omega
  refine ⟨fun k => min (x k) now + (cnt P (x k - now).toNat : Int), ⟨fun b hb => ?_, fun k hk e => ?_, fun k hk e => ?_⟩, fun k hk e => ?_⟩
  · obtain ⟨⟨f, hf, hfn⟩, ⟨t, ht, htn⟩, hm1, hm2⟩ := in_mem q5 hb
    have hb := hx.1 b hb
    rw [hf, ht, Int.toNat_natCast, Int.toNat_natCast] at hb ⊢
    dsimp only
    rcases Int.lt_or_le (x t) (x f) with hlt | hge
    · -- the later one is f
      by_cases hfn2 : x f ≤ now
      · have e1 : (x f - now).toNat = 0 := by omega
        have e2 : (x t - now).toNat = 0 := by omega
        rw [e1, e2]; omega
      · have ef := hval f hfn (by omega)
        obtain ⟨c, hc⟩ : ∃ c : Nat, c = (x t - now).toNat := ⟨_, rfl⟩
        obtain ⟨a, ha⟩ : ∃ a : Nat, a = (x f - now).toNat := ⟨_, rfl⟩
        rw [← hc, ← ha]
        have hca : c ≤ a := by omega
        obtain ⟨s, hs⟩ : ∃ s : Nat, s = min (a - c) 99 := ⟨_, rfl⟩
        have h1 := cnt_lip P c (a - s - c)
        have h2 := cnt_full P (a - s) s fun u h1 h2 => hin f hfn ef u (by omega) (by omega)
        have e1 : c + (a - s - c) = a - s := by omega
        have e2 : a - s + s = a := by omega
        rw [e1] at h1
        rw [e2] at h2
        omega
    · obtain ⟨c, hc⟩ : ∃ c : Nat, c = (x t - now).toNat := ⟨_, rfl⟩
      obtain ⟨a, ha⟩ : ∃ a : Nat, a = (x f - now).toNat := ⟨_, rfl⟩
      rw [← hc, ← ha]
      have h1 := cnt_lip P a (c - a)
      have e1 : a + (c - a) = c := by omega
      rw [e1] at h1
      omega
  · have := hx.2.1 k hk e
    dsimp only; omega
  · have h1 := hx.2.2 k hk e
    have h2 := a5 k hk
    dsimp only
    have e1 : (x k - now).toNat = 0 := by omega
    rw [e1, h1]
    show min (dA d k) now + ((0 : Nat) : Int) = dA d k
    omega
  · have := hcap (x k - now).toNat
    dsimp only; omega
/-- of what is open one may be done, soon -/
theorem some_next {p : Pl} {now : Int} {d : List Int} (h : p.stOk now d = true) (hg : p.goes now d = true) (hlate : now ≤ 1400) {l : Nat} (hl : l < p.n) (el : dA d l = -1) :
    ∃ (b : Nat) (T : Int), b < p.n ∧ b ≠ 0 ∧ dA d b = -1 ∧ now ≤ T ∧ T ≤ now + 495 ∧ T ≤ deadTo p.clo d p.n p.n ∧ p.stOk T (d.set b T) = true ∧ p.goes T (d.set b T) = true := by
  obtain ⟨a1, a2, a3, a4, a5⟩ := st_in h
  obtain ⟨x0, hx0⟩ := (goes_iff h).1 hg
  obtain ⟨x, hx, hnear⟩ := sol_near h hx0
  obtain ⟨r, hr, er, hm⟩ := low_of (P := fun k => dA d k = -1) x p.n ⟨l, hl, el⟩
  have h1 := hx.2.1 r hr er
  have h2 := hnear r hr er
  have hr0 : r ≠ 0 := by intro e; subst e; omega
  have hst := st_done h h1 (by omega) hr hr0
  have hs : Sol p (x r) d x := ⟨hx.1, fun k hk ek => hm k hk ek, hx.2.2⟩
  refine ⟨r, x r, hr, hr0, er, h1, h2, dead_iff.2 ⟨by omega, fun i k hi hk ei ek hD => sol_by hs hi hk ei ek hD⟩, hst, (goes_iff hst).2 ⟨x, sol_done a2 hs hr rfl (by omega)⟩⟩
end Go.Proofs.Ytffcfambgcaikaa
