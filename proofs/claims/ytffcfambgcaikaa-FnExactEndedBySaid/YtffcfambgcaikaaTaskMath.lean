/- Plain facts on projects: earliest and latest begins, lengths, spare times. No program in sight. No condition but those each lemma names. -/
namespace Go.Proofs.Ytffcfambgcaikaa
set_option linter.unusedVariables false
/-- the bit of a number of 0 or more -/
def bit (a : Int) (k : Nat) : Bool := a / 2 ^ k % 2 == 1
/-- e is the row of earliest begins of the first n tasks -/
structure IsEarly (L A : Nat → Int) (n : Nat) (e : Nat → Int) : Prop where
  pos : ∀ k, k < n → 0 ≤ e k
  up : ∀ k, k < n → ∀ j, j < k → bit (A k) j = true → e j + L j ≤ e k
  hit : ∀ k, k < n → e k = 0 ∨ ∃ j, j < k ∧ bit (A k) j = true ∧ e k = e j + L j
theorem IsEarly.uniq {L A : Nat → Int} {n : Nat} {e e' : Nat → Int} (h : IsEarly L A n e) (h' : IsEarly L A n e') : ∀ k, k < n → e k = e' k := by
  intro k
  induction k using Nat.strongRecOn with
  | _ k ih =>
    intro hk
    have h1 : e k ≤ e' k := by
      rcases h.hit k hk with h0 | ⟨j, hj, hb, he⟩
      · rw [h0]; exact h'.pos k hk
      · have := h'.up k hk j hj hb; rw [he, ih j hj (by omega)]; exact this
    have h2 : e' k ≤ e k := by
      rcases h'.hit k hk with h0 | ⟨j, hj, hb, he⟩
      · rw [h0]; exact h.pos k hk
      · have := h.up k hk j hj hb; rw [he, ← ih j hj (by omega)]; exact this
    omega
/-- the begin of task k, by the begins before -/
def startUp (L A : Nat → Int) (e : Nat → Int) (k : Nat) : Nat → Int
  | 0 => 0
  | j+1 => if bit (A k) j then max (startUp L A e k j) (e j + L j) else startUp L A e k j
theorem startUp_pos (L A e : Nat → Int) (k : Nat) : ∀ j, 0 ≤ startUp L A e k j
  | 0 => Int.le_refl _
  | j+1 => by have := startUp_pos L A e k j; unfold startUp; split <;> omega
theorem startUp_up (L A e : Nat → Int) (k : Nat) : ∀ j i, i < j → bit (A k) i = true → e i + L i ≤ startUp L A e k j
  | 0, i, h, _ => by omega
  | j+1, i, h, hb => by
    unfold startUp
    by_cases hij : i = j
    · subst hij; rw [if_pos hb]; omega
    · have := startUp_up L A e k j i (by omega) hb
      split <;> omega
theorem startUp_hit (L A e : Nat → Int) (k : Nat) : ∀ j, startUp L A e k j = 0 ∨ ∃ i, i < j ∧ bit (A k) i = true ∧ startUp L A e k j = e i + L i
  | 0 => .inl rfl
  | j+1 => by
    have ih := startUp_hit L A e k j
    unfold startUp
    split
    · rename_i hb
      rcases Int.le_total (startUp L A e k j) (e j + L j) with h | h
      · rw [Int.max_eq_right h]; exact .inr ⟨j, by omega, hb, rfl⟩
      · rw [Int.max_eq_left h]
        rcases ih with h0 | ⟨i, hi, h1, h2⟩
        · exact .inl h0
        · exact .inr ⟨i, by omega, h1, h2⟩
    · rcases ih with h0 | ⟨i, hi, h1, h2⟩
      · exact .inl h0
      · exact .inr ⟨i, by omega, h1, h2⟩
theorem startUp_congr (L A e e' : Nat → Int) (k : Nat) : ∀ j, (∀ i, i < j → e i = e' i) → startUp L A e k j = startUp L A e' k j
  | 0, _ => rfl
  | j+1, h => by unfold startUp; rw [startUp_congr L A e e' k j (fun i hi => h i (by omega)), h j (by omega)]
/-- the row of the first n earliest begins -/
def earlyL (L A : Nat → Int) : Nat → List Int
  | 0 => []
  | n+1 => earlyL L A n ++ [startUp L A (fun i => (earlyL L A n).getD i 0) n n]
theorem earlyL_length (L A : Nat → Int) : ∀ n, (earlyL L A n).length = n
  | 0 => rfl
  | n+1 => by simp [earlyL, earlyL_length L A n]
theorem getD_app_lt {α : Type} (l l' : List α) (i : Nat) (d : α) (h : i < l.length) : (l ++ l').getD i d = l.getD i d := by
  simp [List.getD_eq_getElem?_getD, List.getElem?_append_left h]
theorem getD_app_self {α : Type} (l : List α) (x d : α) (n : Nat) (h : l.length = n) : (l ++ [x]).getD n d = x := by
  subst h; simp [List.getD_eq_getElem?_getD]
theorem earlyL_early (L A : Nat → Int) : ∀ n, IsEarly L A n (fun i => (earlyL L A n).getD i 0)
  | 0 => ⟨fun k h => by omega, fun k h => by omega, fun k h => by omega⟩
  | n+1 => by
    have ih := earlyL_early L A n
    have hl := earlyL_length L A n
    have eq : earlyL L A (n+1) = earlyL L A n ++ [startUp L A (fun i => (earlyL L A n).getD i 0) n n] := rfl
    have lo : ∀ i, i < n → (earlyL L A (n+1)).getD i 0 = (earlyL L A n).getD i 0 := fun i hi => by
      rw [eq]; exact getD_app_lt (earlyL L A n) _ i 0 (by omega)
    have hi_ : (earlyL L A (n+1)).getD n 0 = startUp L A (fun i => (earlyL L A n).getD i 0) n n := by
      rw [eq]; exact getD_app_self (earlyL L A n) _ 0 n hl
    refine ⟨fun k hk => ?_, fun k hk j hj hb => ?_, fun k hk => ?_⟩
    · by_cases h : k = n
      · subst h; rw [hi_]; exact startUp_pos _ _ _ _ _
      · rw [lo k (by omega)]; exact ih.pos k (by omega)
    · by_cases h : k = n
      · subst h; rw [hi_, lo j hj]; exact startUp_up L A _ k k j hj hb
      · rw [lo k (by omega), lo j (by omega)]; exact ih.up k (by omega) j hj hb
    · by_cases h : k = n
      · subst h; rw [hi_]
        rcases startUp_hit L A (fun i => (earlyL L A k).getD i 0) k k with h0 | ⟨i, hi, h1, h2⟩
        · exact .inl h0
        · exact .inr ⟨i, hi, h1, by rw [lo i hi]; exact h2⟩
      · rw [lo k (by omega)]
        rcases ih.hit k (by omega) with h0 | ⟨i, hi, h1, h2⟩
        · exact .inl h0
        · exact .inr ⟨i, hi, h1, by rw [lo i (by omega)]; exact h2⟩
/-- the greatest end of the first n tasks -/
def endUp (L e : Nat → Int) : Nat → Int
  | 0 => 0
  | n+1 => max (endUp L e n) (e n + L n)
theorem endUp_pos (L e : Nat → Int) : ∀ n, 0 ≤ endUp L e n
  | 0 => Int.le_refl _
  | n+1 => by have := endUp_pos L e n; unfold endUp; omega
theorem endUp_up (L e : Nat → Int) : ∀ n k, k < n → e k + L k ≤ endUp L e n
  | 0, k, h => by omega
  | n+1, k, h => by
    unfold endUp
    by_cases hk : k = n
    · subst hk; omega
    · have := endUp_up L e n k (by omega); omega
theorem endUp_hit (L e : Nat → Int) : ∀ n, endUp L e n = 0 ∨ ∃ k, k < n ∧ endUp L e n = e k + L k
  | 0 => .inl rfl
  | n+1 => by
    have ih := endUp_hit L e n
    unfold endUp
    rcases Int.le_total (endUp L e n) (e n + L n) with h | h
    · rw [Int.max_eq_right h]; exact .inr ⟨n, by omega, rfl⟩
    · rw [Int.max_eq_left h]
      rcases ih with h0 | ⟨i, hi, h1⟩
      · exact .inl h0
      · exact .inr ⟨i, by omega, h1⟩
theorem endUp_congr (L e L' e' : Nat → Int) : ∀ n, (∀ k, k < n → e k + L k = e' k + L' k) → endUp L e n = endUp L' e' n
  | 0, _ => rfl
  | n+1, h => by unfold endUp; rw [endUp_congr L e L' e' n (fun k hk => h k (by omega)), h n (by omega)]
/-- t is the row of latest begins, if all end by 'len' -/
structure IsLate (L A : Nat → Int) (n : Nat) (len : Int) (t : Nat → Int) : Prop where
  top : ∀ k, k < n → t k + L k ≤ len
  up : ∀ k, k < n → ∀ j, j < k → bit (A k) j = true → t j + L j ≤ t k
  hit : ∀ j, j < n → t j + L j = len ∨ ∃ k, j < k ∧ k < n ∧ bit (A k) j = true ∧ t j + L j = t k
theorem IsLate.uniq {L A : Nat → Int} {n : Nat} {len : Int} {t t' : Nat → Int} (h : IsLate L A n len t) (h' : IsLate L A n len t') : ∀ m k, n - k = m → k < n → t k = t' k := by
  intro m
  induction m using Nat.strongRecOn with
  | _ m ih =>
    intro k hm hk
    have h1 : t' k ≤ t k := by
      rcases h.hit k hk with h0 | ⟨j, hj, hn, hb, he⟩
      · have := h'.top k hk; omega
      · have := h'.up j hn k hj hb; have := ih (n - j) (by omega) j rfl hn; omega
    have h2 : t k ≤ t' k := by
      rcases h'.hit k hk with h0 | ⟨j, hj, hn, hb, he⟩
      · have := h.top k hk; omega
      · have := h.up j hn k hj hb; have := ih (n - j) (by omega) j rfl hn; omega
    omega
theorem late_early {L A : Nat → Int} {n : Nat} {e t : Nat → Int} (h : IsEarly L A n e) (h' : IsLate L A n (endUp L e n) t) : ∀ m k, n - k = m → k < n → e k ≤ t k := by
  intro m
  induction m using Nat.strongRecOn with
  | _ m ih =>
    intro k hm hk
    rcases h'.hit k hk with h0 | ⟨j, hj, hn, hb, he⟩
    · have := endUp_up L e n k hk; omega
    · have := ih (n - j) (by omega) j rfl hn; have := h.up j hn k hj hb; omega
/-- the least of 'len' and the latest begins of those of k.. below n that come after task j -/
def lateDown (A t : Nat → Int) (len : Int) (j : Nat) (k : Nat) : Nat → Int
  | 0 => len
  | m+1 => if bit (A (k + m)) j then min (lateDown A t len j k m) (t (k + m)) else lateDown A t len j k m
theorem lateDown_top (A t : Nat → Int) (len : Int) (j k : Nat) : ∀ m, lateDown A t len j k m ≤ len
  | 0 => Int.le_refl _
  | m+1 => by have := lateDown_top A t len j k m; unfold lateDown; split <;> omega
theorem lateDown_up (A t : Nat → Int) (len : Int) (j k : Nat) : ∀ m i, k ≤ i → i < k + m → bit (A i) j = true → lateDown A t len j k m ≤ t i
  | 0, i, h, h', _ => by omega
  | m+1, i, h, h', hb => by
    unfold lateDown
    by_cases hi : i = k + m
    · subst hi; rw [if_pos hb]; omega
    · have := lateDown_up A t len j k m i h (by omega) hb
      split <;> omega
theorem lateDown_hit (A t : Nat → Int) (len : Int) (j k : Nat) : ∀ m, lateDown A t len j k m = len ∨ ∃ i, k ≤ i ∧ i < k + m ∧ bit (A i) j = true ∧ lateDown A t len j k m = t i
  | 0 => .inl rfl
  | m+1 => by
    have ih := lateDown_hit A t len j k m
    unfold lateDown
    split
    · rename_i hb
      rcases Int.le_total (lateDown A t len j k m) (t (k + m)) with h | h
      · rw [Int.min_eq_left h]
        rcases ih with h0 | ⟨i, h1, h2, h3, h4⟩
        · exact .inl h0
        · exact .inr ⟨i, h1, by omega, h3, h4⟩
      · rw [Int.min_eq_right h]; exact .inr ⟨k + m, by omega, by omega, hb, rfl⟩
    · rcases ih with h0 | ⟨i, h1, h2, h3, h4⟩
      · exact .inl h0
      · exact .inr ⟨i, h1, by omega, h3, h4⟩
/-- the latest begins of the last m tasks -/
def lateL (L A : Nat → Int) (len : Int) (n : Nat) : Nat → List Int
  | 0 => []
  | m+1 => (lateDown A (fun i => (lateL L A len n m).getD (i - (n - m)) 0) len (n - (m+1)) (n - m) m - L (n - (m+1))) :: lateL L A len n m
theorem lateL_length (L A : Nat → Int) (len : Int) (n : Nat) : ∀ m, (lateL L A len n m).length = m
  | 0 => rfl
  | m+1 => by simp [lateL, lateL_length L A len n m]
theorem lateL_late (L A : Nat → Int) (len : Int) (n : Nat) : ∀ m, m ≤ n →
    (∀ k, n - m ≤ k → k < n → (lateL L A len n m).getD (k - (n - m)) 0 + L k ≤ len) ∧
    (∀ k, k < n → ∀ j, n - m ≤ j → j < k → bit (A k) j = true → (lateL L A len n m).getD (j - (n - m)) 0 + L j ≤ (lateL L A len n m).getD (k - (n - m)) 0) ∧
    (∀ j, n - m ≤ j → j < n → (lateL L A len n m).getD (j - (n - m)) 0 + L j = len ∨ ∃ k, j < k ∧ k < n ∧ bit (A k) j = true ∧ (lateL L A len n m).getD (j - (n - m)) 0 + L j = (lateL L A len n m).getD (k - (n - m)) 0)
  | 0, _ => ⟨fun k _ _ => by omega, fun k _ j _ _ _ => by omega, fun j _ _ => by omega⟩
  | m+1, hm => by
    obtain ⟨i1, i2, i3⟩ := lateL_late L A len n m (by omega)
    have lo : ∀ i, n - m ≤ i → (lateL L A len n (m+1)).getD (i - (n - (m+1))) 0 = (lateL L A len n m).getD (i - (n - m)) 0 := fun i hi => by
      rw [show i - (n - (m+1)) = (i - (n - m)) + 1 by omega, lateL, List.getD_cons_succ]
    have top : (lateL L A len n (m+1)).getD (n - (m+1) - (n - (m+1))) 0 = lateDown A (fun i => (lateL L A len n m).getD (i - (n - m)) 0) len (n - (m+1)) (n - m) m - L (n - (m+1)) := by
      rw [Nat.sub_self, lateL, List.getD_cons_zero]
    generalize hl : lateL L A len n (m+1) = l at *
    refine ⟨fun k h1 h2 => ?_, fun k h1 j h2 h3 hb => ?_, fun j h1 h2 => ?_⟩
    · by_cases h : k = n - (m+1)
      · subst h; rw [top]; have := lateDown_top A (fun i => (lateL L A len n m).getD (i - (n - m)) 0) len (n - (m+1)) (n - m) m; omega
      · rw [lo k (by omega)]; exact i1 k (by omega) h2
    · by_cases h : j = n - (m+1)
      · subst h; rw [top, lo k (by omega)]
        have := lateDown_up A (fun i => (lateL L A len n m).getD (i - (n - m)) 0) len (n - (m+1)) (n - m) m k (by omega) (by omega) hb
        omega
      · rw [lo k (by omega), lo j (by omega)]; exact i2 k h1 j (by omega) h3 hb
    · by_cases h : j = n - (m+1)
      · subst h; rw [top]
        rcases lateDown_hit A (fun i => (lateL L A len n m).getD (i - (n - m)) 0) len (n - (m+1)) (n - m) m with h0 | ⟨i, h3, h4, h5, h6⟩
        · left; omega
        · right; refine ⟨i, by omega, by omega, h5, ?_⟩; rw [lo i (by omega)]; omega
      · rw [lo j (by omega)]
        rcases i3 j (by omega) h2 with h0 | ⟨k, h3, h4, h5, h6⟩
        · exact .inl h0
        · exact .inr ⟨k, h3, h4, h5, by rw [lo k (by omega)]; exact h6⟩
theorem lateL_isLate (L A : Nat → Int) (len : Int) (n : Nat) : IsLate L A n len (fun i => (lateL L A len n n).getD i 0) := by
  obtain ⟨h1, h2, h3⟩ := lateL_late L A len n n (Nat.le_refl _)
  simp only [Nat.sub_self, Nat.sub_zero] at h1 h2 h3
  exact ⟨fun k hk => h1 k (by omega) hk, fun k hk j hj hb => h2 k hk j (by omega) hj hb, fun j hj => h3 j (by omega) hj⟩

/-! ### one task longer -/
/-- the same before task k; no less anywhere -/
theorem early_same {L L' A e e' : Nat → Int} {n m k : Nat} (h : IsEarly L A n e) (h' : IsEarly L' A m e') (hL : ∀ j, j < k → L' j = L j) (hkn : k < n) (hkm : k < m) : ∀ i, i ≤ k → e' i = e i := by
  have g : IsEarly L A (k+1) e := ⟨fun i hi => h.pos i (by omega), fun i hi => h.up i (by omega), fun i hi => h.hit i (by omega)⟩
  have g' : IsEarly L A (k+1) e' := ⟨fun i hi => h'.pos i (by omega), fun i hi j hj hb => by have := h'.up i (by omega) j hj hb; rw [hL j (by omega)] at this; exact this, fun i hi => by
    rcases h'.hit i (by omega) with h0 | ⟨j, hj, hb, he⟩
    · exact .inl h0
    · exact .inr ⟨j, hj, hb, by rw [he, hL j (by omega)]⟩⟩
  exact fun i hi => g'.uniq g i (by omega)
theorem early_mono {L L' A e e' : Nat → Int} {n : Nat} (h : IsEarly L A n e) (h' : IsEarly L' A n e') (hL : ∀ j, j < n → L j ≤ L' j) : ∀ i, i < n → e i ≤ e' i := by
  intro i
  induction i using Nat.strongRecOn with
  | _ i ih =>
    intro hi
    rcases h.hit i hi with h0 | ⟨j, hj, hb, he⟩
    · rw [h0]; exact h'.pos i hi
    · have := h'.up i hi j hj hb; have := ih j hj (by omega); have := hL j (by omega); omega
theorem endUp_mono {L L' e e' : Nat → Int} : ∀ {n : Nat}, (∀ i, i < n → e i + L i ≤ e' i + L' i) → endUp L e n ≤ endUp L' e' n
  | 0, _ => Int.le_refl _
  | n+1, h => by have := endUp_mono (n := n) fun i hi => h i (by omega); have := h n (by omega); unfold endUp; omega
theorem endUp_le {L e : Nat → Int} {b : Int} (hb : 0 ≤ b) : ∀ {n : Nat}, (∀ i, i < n → e i + L i ≤ b) → endUp L e n ≤ b
  | 0, _ => hb
  | n+1, h => by have := endUp_le hb (n := n) fun i hi => h i (by omega); have := h n (by omega); unfold endUp; omega
/-- a task longer by 1: the project is longer by 1 at most -/
theorem one_longer {L L' A e e' : Nat → Int} {n k : Nat} (h : IsEarly L A n e) (h' : IsEarly L' A n e') (hk : L' k ≤ L k + 1) (hL : ∀ j, j ≠ k → L' j = L j) (hpk : k < n) : endUp L' e' n ≤ endUp L e n + 1 := by
  have same := early_same h h' (k := k) (fun j hj => hL j (by omega)) hpk hpk
  have up : ∀ i, i < n → e' i ≤ e i + 1 ∧ (i ≤ k → e' i ≤ e i) := by
    intro i
    induction i using Nat.strongRecOn with
    | _ i ih =>
      intro hi
      refine ⟨?_, fun hik => by rw [same i hik]; exact Int.le_refl _⟩
      rcases h'.hit i hi with h0 | ⟨j, hj, hb, he⟩
      · have := h.pos i hi; omega
      · have g := h.up i hi j hj hb
        have ⟨g1, g2⟩ := ih j hj (by omega)
        by_cases hjk : j = k
        · subst hjk; have := g2 (Nat.le_refl _); omega
        · have := hL j hjk; omega
  refine endUp_le (by have := endUp_pos L e n; omega) fun i hi => ?_
  have g := endUp_up L e n i hi
  have ⟨g1, g2⟩ := up i hi
  by_cases hik : i = k
  · subst hik; have := g2 (Nat.le_refl _); omega
  · have := hL i hik; omega
/-- longer by its spare time: no longer project -/
theorem by_spare {L L' A e e' t : Nat → Int} {n k : Nat} (h : IsEarly L A n e) (h' : IsEarly L' A n e') (ht : IsLate L A n (endUp L e n) t) (hpk : k < n)
    (hk : L' k = L k + (t k - e k)) (hL : ∀ j, j ≠ k → L' j = L j) : endUp L' e' n = endUp L e n := by
  have same := early_same h h' (k := k) (fun j hj => hL j (by omega)) hpk hpk
  have sp := fun i hi => late_early h ht _ i rfl hi
  have up : ∀ i, i < n → e' i ≤ t i := by
    intro i
    induction i using Nat.strongRecOn with
    | _ i ih =>
      intro hi
      rcases h'.hit i hi with h0 | ⟨j, hj, hb, he⟩
      · have := h.pos i hi; have := sp i hi; omega
      · have g := ht.up i hi j hj hb
        by_cases hjk : j = k
        · subst hjk; have := same j (Nat.le_refl _); omega
        · have := ih j hj (by omega); have := hL j hjk; omega
  have h1 : endUp L' e' n ≤ endUp L e n := by
    refine endUp_le (endUp_pos L e n) fun i hi => ?_
    have g := ht.top i hi
    by_cases hik : i = k
    · subst hik; have := same i (Nat.le_refl _); omega
    · have := up i hi; have := hL i hik; omega
  have mono := early_mono h h' fun j hj => by
    by_cases hjk : j = k
    · subst hjk; have := sp j hj; omega
    · rw [hL j hjk]; exact Int.le_refl _
  have h2 : endUp L e n ≤ endUp L' e' n := endUp_mono fun i hi => by
    have := mono i hi
    by_cases hik : i = k
    · subst hik; have := sp i hi; omega
    · have := hL i hik; omega
  omega
/-- longer by one more than its spare time: at least 1 longer -/
theorem past_spare {L L' A e e' t : Nat → Int} {n k : Nat} (h : IsEarly L A n e) (h' : IsEarly L' A n e') (ht : IsLate L A n (endUp L e n) t) (hpk : k < n)
    (hk : L' k = L k + (t k - e k) + 1) (hL : ∀ j, j ≠ k → L' j = L j) : endUp L e n + 1 ≤ endUp L' e' n := by
  have same := early_same h h' (k := k) (fun j hj => hL j (by omega)) hpk hpk
  have sp := fun i hi => late_early h ht _ i rfl hi
  have ge : ∀ j, j < n → L j ≤ L' j := fun j hj => by
    by_cases hjk : j = k
    · subst hjk; have := sp j hj; omega
    · rw [hL j hjk]; exact Int.le_refl _
  have run : ∀ m i, n - i = m → i < n → t i + L i + 1 ≤ e' i + L' i → endUp L e n + 1 ≤ endUp L' e' n := by
    intro m
    induction m using Nat.strongRecOn with
    | _ m ih =>
      intro i hm hi hge
      rcases ht.hit i hi with h0 | ⟨j, hj, hn, hb, he⟩
      · have := endUp_up L' e' n i hi; omega
      · have g := h'.up j hn i hj hb
        have := ge j hn
        exact ih (n - j) (by omega) j rfl hn (by omega)
  have := same k (Nat.le_refl _)
  exact run _ k rfl hpk (by omega)
theorem some_critical {L A e t : Nat → Int} {n : Nat} (h : IsEarly L A n e) (ht : IsLate L A n (endUp L e n) t) (hn : 0 < n) (hL : ∀ j, j < n → 1 ≤ L j) : ∃ k, k < n ∧ t k = e k := by
  rcases endUp_hit L e n with h0 | ⟨k, hk, he⟩
  · have := endUp_up L e n 0 hn; have := h.pos 0 hn; have := hL 0 hn; omega
  · refine ⟨k, hk, ?_⟩
    have := ht.top k hk; have := late_early h ht _ k rfl hk; omega
theorem bits_zero : ∀ (k : Nat) (a : Int), 0 ≤ a → a < 2 ^ k → (∀ j, j < k → bit a j = false) → a = 0
  | 0, a, h0, h1, _ => by simp at h1; omega
  | k+1, a, h0, h1, h => by
    have e : a / 2 = 0 := bits_zero k (a / 2) (by omega) (by rw [Int.pow_succ] at h1; omega) fun j hj => by
      have := h (j+1) (by omega)
      unfold bit at *
      rw [Int.pow_succ, Int.mul_comm, ← Int.ediv_ediv_of_nonneg (by omega)] at this
      exact this
    have := h 0 (by omega)
    simp [bit] at this
    omega
/-- all tasks one after the other take at least as long -/
def sumUp (L : Nat → Int) : Nat → Int
  | 0 => 0
  | n+1 => sumUp L n + L n
theorem sumUp_mono {L : Nat → Int} {n : Nat} (hL : ∀ j, j < n → 0 ≤ L j) : ∀ {i k}, i ≤ k → k ≤ n → sumUp L i ≤ sumUp L k := by
  intro i k hik
  induction k with
  | zero => intro _; obtain rfl : i = 0 := by omega
            exact Int.le_refl _
  | succ k ih =>
    intro hk
    by_cases h : i = k + 1
    · subst h; exact Int.le_refl _
    · have := ih (by omega) (by omega); have := hL k (by omega); show sumUp L i ≤ sumUp L k + L k; omega
theorem early_sum {L A e : Nat → Int} {n : Nat} (h : IsEarly L A n e) (hL : ∀ j, j < n → 0 ≤ L j) : ∀ i, i < n → e i ≤ sumUp L i := by
  intro i
  induction i using Nat.strongRecOn with
  | _ i ih =>
    intro hi
    have g0 : 0 ≤ sumUp L i := by have := sumUp_mono hL (i := 0) (k := i) (by omega) (by omega); simpa [sumUp] using this
    rcases h.hit i hi with h0 | ⟨j, hj, hb, he⟩
    · omega
    · have := ih j hj (by omega)
      have := sumUp_mono hL (i := j+1) (k := i) (by omega) (by omega)
      have e : sumUp L (j+1) = sumUp L j + L j := rfl
      omega
theorem end_sum {L A e : Nat → Int} {n : Nat} (h : IsEarly L A n e) (hL : ∀ j, j < n → 0 ≤ L j) : endUp L e n ≤ sumUp L n := by
  refine endUp_le (by have := sumUp_mono hL (i := 0) (k := n) (by omega) (by omega); simpa [sumUp] using this) fun i hi => ?_
  have := early_sum h hL i hi
  have := sumUp_mono hL (i := i+1) (k := n) (by omega) (by omega)
  have e : sumUp L (i+1) = sumUp L i + L i := rfl
  omega
/-! ### the two ways in which latest begins are found -/
theorem late_one {L A t : Nat → Int} {n : Nat} {len : Int} (h : IsLate L A n len t) {j : Nat} (hj : j < n) (x : Int) (h1 : x ≤ len) (h2 : ∀ i, j < i → i < n → bit (A i) j = true → x ≤ t i)
    (h3 : x = len ∨ ∃ i, j < i ∧ i < n ∧ bit (A i) j = true ∧ x = t i) : x = t j + L j := by
  have g1 := h.top j hj
  have a : x ≤ t j + L j := by
    rcases h.hit j hj with h0 | ⟨i, hi, hn, hb, he⟩
    · omega
    · have := h2 i hi hn hb; omega
  have b : t j + L j ≤ x := by
    rcases h3 with h0 | ⟨i, hi, hn, hb, he⟩
    · omega
    · have := h.up i hn j hi hb; omega
  omega
theorem lateDown_eq {L A t : Nat → Int} {n : Nat} {len : Int} (h : IsLate L A n len t) {j : Nat} (hj : j < n) : lateDown A t len j (j+1) (n - (j+1)) = t j + L j := by
  refine late_one h hj _ (lateDown_top _ _ _ _ _ _) (fun i h1 h2 hb => lateDown_up _ _ _ _ _ _ i (by omega) (by omega) hb) ?_
  rcases lateDown_hit A t len j (j+1) (n - (j+1)) with h0 | ⟨i, h1, h2, h3, h4⟩
  · exact .inl h0
  · exact .inr ⟨i, by omega, by omega, h3, h4⟩
/-- the least of 'len' and the latest begins of those of the last m tasks that come after task j -/
def fall (A t : Nat → Int) (len : Int) (n j : Nat) : Nat → Int
  | 0 => len
  | m+1 => if bit (A (n - (m+1))) j && decide (j < n - (m+1)) then min (fall A t len n j m) (t (n - (m+1))) else fall A t len n j m
theorem fall_top (A t : Nat → Int) (len : Int) (n j : Nat) : ∀ m, fall A t len n j m ≤ len
  | 0 => Int.le_refl _
  | m+1 => by have := fall_top A t len n j m; unfold fall; split <;> omega
theorem fall_up (A t : Nat → Int) (len : Int) (n j : Nat) : ∀ m i, n - m ≤ i → i < n → m ≤ n → j < i → bit (A i) j = true → fall A t len n j m ≤ t i
  | 0, i, h, h', _, _, _ => by omega
  | m+1, i, h, h', hm, hj, hb => by
    unfold fall
    by_cases hi : i = n - (m+1)
    · subst hi; rw [if_pos (by simp [hb, hj])]; omega
    · have := fall_up A t len n j m i (by omega) h' (by omega) hj hb
      split <;> omega
theorem fall_hit (A t : Nat → Int) (len : Int) (n j : Nat) : ∀ m, m ≤ n → fall A t len n j m = len ∨ ∃ i, j < i ∧ i < n ∧ bit (A i) j = true ∧ fall A t len n j m = t i
  | 0, _ => .inl rfl
  | m+1, hm => by
    have ih := fall_hit A t len n j m (by omega)
    unfold fall
    split
    · rename_i hb
      simp only [Bool.and_eq_true, decide_eq_true_eq] at hb
      rcases Int.le_total (fall A t len n j m) (t (n - (m+1))) with h | h
      · rw [Int.min_eq_left h]; exact ih
      · rw [Int.min_eq_right h]; exact .inr ⟨n - (m+1), hb.2, by omega, hb.1, rfl⟩
    · exact ih
theorem fall_eq {L A t : Nat → Int} {n : Nat} {len : Int} (h : IsLate L A n len t) {j m : Nat} (hj : j < n) (hm : m ≤ n) (hmj : n - m ≤ j + 1) : fall A t len n j m = t j + L j := by
  refine late_one h hj _ (fall_top _ _ _ _ _ _) (fun i h1 h2 hb => fall_up _ _ _ _ _ _ i (by omega) h2 hm h1 hb) (fall_hit A t len n j m hm)
theorem fall_pos {A t : Nat → Int} {len : Int} {n j : Nat} (h0 : 0 ≤ len) (ht : ∀ i, i < n → 0 ≤ t i) : ∀ m, m ≤ n → 0 ≤ fall A t len n j m
  | 0, _ => h0
  | m+1, hm => by
    have := fall_pos h0 ht (A := A) (j := j) m (by omega)
    unfold fall
    split
    · have := ht (n - (m+1)) (by omega); omega
    · omega
theorem lateDown_pos {A t : Nat → Int} {len : Int} {n j k : Nat} (h0 : 0 ≤ len) (ht : ∀ i, i < n → 0 ≤ t i) : ∀ m, k + m ≤ n → 0 ≤ lateDown A t len j k m
  | 0, _ => h0
  | m+1, hm => by
    have := lateDown_pos h0 ht (A := A) (j := j) (k := k) m (by omega)
    unfold lateDown
    split
    · have := ht (k + m) (by omega); omega
    · omega
/-! ### a row by its function -/
def rowOf (n : Nat) (f : Nat → Int) : List Int := (List.range n).map f
theorem rowOf_length (n : Nat) (f : Nat → Int) : (rowOf n f).length = n := by simp [rowOf]
theorem rowOf_getD (n : Nat) (f : Nat → Int) (j : Nat) (h : j < n) : (rowOf n f).getD j 0 = f j := by simp [rowOf, List.getD_eq_getElem?_getD, h]
theorem rowOf_set (n : Nat) (f : Nat → Int) (i : Nat) (x : Int) : (rowOf n f).set i x = rowOf n (fun j => if j = i then x else f j) := by
  apply List.ext_getElem (by simp [rowOf])
  intro j h1 h2
  simp only [rowOf, List.length_map, List.length_range] at h2
  by_cases hj : i = j
  · subst hj; simp [rowOf]
  · rw [List.getElem_set_ne hj]
    simp [rowOf, Ne.symm hj]
theorem rowOf_congr (n : Nat) (f g : Nat → Int) (h : ∀ j, j < n → f j = g j) : rowOf n f = rowOf n g := by
  unfold rowOf
  exact List.map_congr_left fun j hj => h j (by simpa using hj)
theorem rowOf_self (l : List Int) : rowOf l.length (fun j => l.getD j 0) = l := by
  apply List.ext_getElem (by simp [rowOf])
  intro j h1 h2
  simp [rowOf, List.getD_eq_getElem?_getD, h2]
theorem rowOf_snoc (n : Nat) (f : Nat → Int) : rowOf (n+1) f = rowOf n f ++ [f n] := by simp [rowOf, List.range_succ]
end Go.Proofs.Ytffcfambgcaikaa
