/- Plain facts on tables of differences: closing a table, alone and in place, times that keep it, bounds added. No program in sight. No condition but those each lemma names. -/
namespace Go.Proofs.Ytffcfambgcaikaa
set_option linter.unusedVariables false
abbrev Tbl := Nat → Nat → Int
/-- a table with each number the way over point k, if that is less -/
def nextT (k : Nat) (D : Tbl) : Tbl := fun i j => if D i k < 100000 ∧ D k j < 100000 then min (D i j) (D i k + D k j) else D i j
/-- the table with ways over the first points -/
def upT (D : Tbl) : Nat → Tbl
  | 0 => D
  | k+1 => nextT k (upT D k)
theorem nextT_le (k : Nat) (D : Tbl) (i j : Nat) : nextT k D i j ≤ D i j := by unfold nextT; split <;> omega
theorem nextT_way (k : Nat) (D : Tbl) {i j : Nat} (h1 : D i k < 100000) (h2 : D k j < 100000) : nextT k D i j ≤ D i k + D k j := by unfold nextT; rw [if_pos ⟨h1, h2⟩]; omega
theorem nextT_or (k : Nat) (D : Tbl) (i j : Nat) : nextT k D i j = D i j ∨ (D i k < 100000 ∧ D k j < 100000 ∧ nextT k D i j = D i k + D k j) := by
  unfold nextT; split
  · rename_i h
    rcases Int.le_total (D i j) (D i k + D k j) with h' | h'
    · exact .inl (Int.min_eq_left h')
    · exact .inr ⟨h.1, h.2, Int.min_eq_right h'⟩
  · exact .inl rfl
theorem upT_mono (D : Tbl) {k k' : Nat} (h : k ≤ k') (i j : Nat) : upT D k' i j ≤ upT D k i j := by
  induction k' with
  | zero => obtain rfl : k = 0 := by omega
            exact Int.le_refl _
  | succ m ih =>
    by_cases e : k = m + 1
    · subst e; exact Int.le_refl _
    · exact Int.le_trans (nextT_le m (upT D m) i j) (ih (by omega))
theorem upT_le (D : Tbl) (k i j : Nat) : upT D k i j ≤ D i j := upT_mono D (Nat.zero_le k) i j
/-- no finite way reaches Far -/
def NoSat (D : Tbl) (n : Nat) : Prop := ∀ k, k < n → ∀ i j, i < n → j < n → upT D k i k < 100000 → upT D k k j < 100000 → upT D k i k + upT D k k j < 100000
def Fits (D : Tbl) (n : Nat) : Prop := ∀ i, i < n → 0 ≤ upT D n i i
theorem closing {D : Tbl} {n : Nat} (hs : NoSat D n) (hf : Fits D n) : ∀ k, k ≤ n → ∀ m, m < k → ∀ i j, i < n → j < n → upT D k i m < 100000 → upT D k m j < 100000 → upT D k i j ≤ upT D k i m + upT D k m j ∧ upT D k i j < 100000 := by
  intro k
  induction k with
  | zero => intro _ m hm; omega
  | succ k ih =>
    intro hk m hm i j hi hj h1 h2
    have hkn : k < n := by omega
    have hd : 0 ≤ upT D k k k := Int.le_trans (hf k hkn) (upT_mono D (by omega) k k)
    have ns := hs k hkn
    show nextT k (upT D k) i j ≤ nextT k (upT D k) i m + nextT k (upT D k) m j ∧ nextT k (upT D k) i j < 100000
    change nextT k (upT D k) i m < 100000 at h1
    change nextT k (upT D k) m j < 100000 at h2
    have le1 := nextT_le k (upT D k) i j
    have ih := ih (by omega)
    generalize upT D k = E at *
    have w := @nextT_way k E i j
    have hns := ns i j hi hj
    by_cases hmk : m = k
    · subst hmk
      have e1 : E i m < 100000 := by rcases nextT_or m E i m with e | ⟨a, b, e⟩ <;> omega
      have e2 : E m j < 100000 := by rcases nextT_or m E m j with e | ⟨a, b, e⟩ <;> omega
      have f1 : E i m ≤ nextT m E i m := by rcases nextT_or m E i m with e | ⟨a, b, e⟩ <;> omega
      have f2 : E m j ≤ nextT m E m j := by rcases nextT_or m E m j with e | ⟨a, b, e⟩ <;> omega
      have := w e1 e2
      have := hns e1 e2
      omega
    · have hmk' : m < k := by omega
      have hmn : m < n := by omega
      rcases nextT_or k E i m with e | ⟨a, b, e⟩ <;> rcases nextT_or k E m j with e' | ⟨a', b', e'⟩
      · have := ih m hmk' i j hi hj (by omega) (by omega)
        omega
      · have := ih m hmk' i k hi hkn (by omega) a'
        have := w this.2 b'
        have := hns (by omega) b'
        omega
      · have := ih m hmk' k j hkn hj b (by omega)
        have := w a this.2
        have := hns a (by omega)
        omega
      · have t := ih m hmk' k k hkn hkn b a'
        have := w a b'
        have := hns a b'
        omega
/-- a closed table: no way over a third point is less -/
def Closed (D : Tbl) (n : Nat) : Prop := ∀ m, m < n → ∀ i j, i < n → j < n → D i m < 100000 → D m j < 100000 → D i j ≤ D i m + D m j ∧ D i j < 100000
theorem closed_of {D : Tbl} {n : Nat} (hs : NoSat D n) (hf : Fits D n) : Closed (upT D n) n := fun m hm => closing hs hf n (Nat.le_refl _) m hm
theorem closed_stays {D : Tbl} {n : Nat} (hc : Closed D n) : ∀ k, k ≤ n → ∀ i j, i < n → j < n → upT D k i j = D i j
  | 0, _, i, j, _, _ => rfl
  | k+1, hk, i, j, hi, hj => by
    have e := closed_stays hc k (by omega)
    show nextT k (upT D k) i j = D i j
    unfold nextT
    rw [e i k hi (by omega), e k j (by omega) hj, e i j hi hj]
    split
    · rename_i h; have := hc k (by omega) i j hi hj h.1 h.2; omega
    · rfl
theorem upT_congr {D E : Tbl} {n : Nat} (h : ∀ i j, i < n → j < n → D i j = E i j) : ∀ k, k ≤ n → ∀ i j, i < n → j < n → upT D k i j = upT E k i j
  | 0, _, i, j, hi, hj => h i j hi hj
  | k+1, hk, i, j, hi, hj => by
    have e := upT_congr h k (by omega)
    show nextT k (upT D k) i j = nextT k (upT E k) i j
    unfold nextT
    rw [e i k hi (by omega), e k j (by omega) hj, e i j hi hj]
theorem upT_less {D E : Tbl} {n : Nat} (h : ∀ i j, i < n → j < n → D i j ≤ E i j) : ∀ k, k ≤ n → ∀ i j, i < n → j < n → upT D k i j ≤ upT E k i j
  | 0, _, i, j, hi, hj => h i j hi hj
  | k+1, hk, i, j, hi, hj => by
    have e := upT_less h k (by omega)
    show nextT k (upT D k) i j ≤ nextT k (upT E k) i j
    have a := e i k hi (by omega)
    have b := e k j (by omega) hj
    have c := e i j hi hj
    have l := nextT_le k (upT D k) i j
    rcases nextT_or k (upT E k) i j with e' | ⟨x, y, e'⟩
    · omega
    · have := @nextT_way k (upT D k) i j (by omega) (by omega)
      omega
theorem fits_less {D E : Tbl} {n : Nat} (h : ∀ i j, i < n → j < n → D i j ≤ E i j) (hf : Fits D n) : Fits E n :=
  fun i hi => Int.le_trans (hf i hi) (upT_less h n (Nat.le_refl _) i i hi hi)
theorem upT_turn (D : Tbl) : ∀ k i j, upT (fun a b => D b a) k i j = upT D k j i
  | 0, i, j => rfl
  | k+1, i, j => by
    show nextT k (upT (fun a b => D b a) k) i j = nextT k (upT D k) j i
    unfold nextT
    rw [upT_turn D k i k, upT_turn D k k j, upT_turn D k i j]
    by_cases h1 : upT D k k i < 100000 <;> by_cases h2 : upT D k j k < 100000
    · rw [if_pos ⟨h1, h2⟩, if_pos ⟨h2, h1⟩, Int.add_comm]
    · rw [if_neg (by omega), if_neg (by omega)]
    · rw [if_neg (by omega), if_neg (by omega)]
    · rw [if_neg (by omega), if_neg (by omega)]
/-! ### times, of which some may be endless -/
def Pot (D : Tbl) (n : Nat) (F : Nat → Prop) (x : Nat → Int) : Prop := ∀ i j, i < n → j < n → F i → D i j < 100000 → F j ∧ x j ≤ x i + D i j
theorem pot_up {D : Tbl} {n : Nat} {F : Nat → Prop} {x : Nat → Int} (h : Pot D n F x) : ∀ k, k ≤ n → Pot (upT D k) n F x
  | 0, _ => h
  | k+1, hk => fun i j hi hj hF hD => by
    have e := pot_up h k (by omega)
    change nextT k (upT D k) i j < 100000 at hD
    show F j ∧ x j ≤ x i + nextT k (upT D k) i j
    rcases nextT_or k (upT D k) i j with e' | ⟨a, b, e'⟩
    · have := e i j hi hj hF (by omega); exact ⟨this.1, by omega⟩
    · have h1 := e i k hi (by omega) hF a
      have h2 := e k j (by omega) hj h1.1 b
      exact ⟨h2.1, by omega⟩
theorem pot_diag {D : Tbl} {n : Nat} {F : Nat → Prop} {x : Nat → Int} (h : Pot D n F x) {i : Nat} (hi : i < n) (hF : F i) (h0 : D i i ≤ 0) : 0 ≤ upT D n i i := by
  have := upT_le D n i i
  have := (pot_up h n (Nat.le_refl _) i i hi hi hF (by omega)).2
  omega
theorem fits_of_pots {D : Tbl} {n : Nat} (h0 : ∀ i, i < n → D i i ≤ 0) (h : ∀ i, i < n → ∃ F x, Pot D n F x ∧ F i) : Fits D n := fun i hi => by
  obtain ⟨F, x, hp, hF⟩ := h i hi
  exact pot_diag hp hi hF (h0 i hi)
/-- the times from a point on, by a closed table -/
theorem pot_from {D : Tbl} {n : Nat} (hc : Closed D n) {a : Nat} (ha : a < n) : Pot D n (fun j => D a j < 100000) (D a) := fun i j hi hj hF hD => by
  have := hc i hi a j ha hj hF hD; exact ⟨this.2, this.1⟩
theorem pot_weak {D E : Tbl} {n : Nat} {F : Nat → Prop} {x : Nat → Int} (h : Pot D n F x) (hl : ∀ i j, i < n → j < n → D i j ≤ E i j) : Pot E n F x := fun i j hi hj hF hD => by
  have := hl i j hi hj
  have := h i j hi hj hF (by omega)
  exact ⟨this.1, by omega⟩
/-- a table with one number more asked -/
def withB (D : Tbl) (f t : Nat) (v : Int) : Tbl := fun i j => if i = f ∧ j = t then min (D i j) v else D i j
theorem withB_le (D : Tbl) (f t : Nat) (v : Int) (i j : Nat) : withB D f t v i j ≤ D i j := by unfold withB; split <;> omega
/-- with a number more that is not against what follows, times from a point on -/
theorem pot_with {D : Tbl} {n : Nat} (hc : Closed D n) (h0 : ∀ i, i < n → D i i = 0) {f t a : Nat} {v : Int} (hf : f < n) (ht : t < n) (ha : a < n) (hv : D t f < 100000 → 0 ≤ D t f + v) (hv2 : v < 100000) :
    Pot (withB D f t v) n (fun j => D a j < 100000 ∨ (D a f < 100000 ∧ D t j < 100000)) (fun j => if D a f < 100000 ∧ D t j < 100000 then (if D a j < 100000 then min (D a j) (D a f + v + D t j) else D a f + v + D t j) else D a j) := by
  intro i j hi hj hF hD
  have key : D i j < 100000 → (D a j < 100000 ∨ (D a f < 100000 ∧ D t j < 100000)) ∧ (if D a f < 100000 ∧ D t j < 100000 then (if D a j < 100000 then min (D a j) (D a f + v + D t j) else D a f + v + D t j) else D a j) ≤
      (if D a f < 100000 ∧ D t i < 100000 then (if D a i < 100000 then min (D a i) (D a f + v + D t i) else D a f + v + D t i) else D a i) + D i j := by
    intro hij
    have c1 := fun h => hc i hi a j ha hj h hij
    have c2 := fun h => hc i hi t j ht hj h hij
    by_cases h1 : D a i < 100000 <;> by_cases h2 : D t i < 100000 <;> by_cases h3 : D a f < 100000
    · have := c1 h1; have := c2 h2
      refine ⟨.inl (by omega), ?_⟩
      rw [if_pos (c := D a f < 100000 ∧ D t j < 100000) (by omega), if_pos (c := D a j < 100000) (by omega), if_pos (c := D a f < 100000 ∧ D t i < 100000) ⟨h3, h2⟩, if_pos h1]; omega
    · have := c1 h1
      refine ⟨.inl this.2, ?_⟩
      rw [if_neg (by omega), if_neg (by omega)]; exact this.1
    · have := c1 h1
      refine ⟨.inl this.2, ?_⟩
      rw [if_neg (c := D a f < 100000 ∧ D t i < 100000) (by omega)]
      split
      · rw [if_pos this.2]; omega
      · exact this.1
    · have := c1 h1
      refine ⟨.inl this.2, ?_⟩
      rw [if_neg (by omega), if_neg (by omega)]; exact this.1
    · have := c2 h2
      refine ⟨.inr ⟨h3, this.2⟩, ?_⟩
      rw [if_pos (c := D a f < 100000 ∧ D t j < 100000) (by omega), if_pos (c := D a f < 100000 ∧ D t i < 100000) ⟨h3, h2⟩, if_neg h1]
      split <;> omega
    · exact absurd hF (by omega)
    · exact absurd hF (by omega)
    · exact absurd hF (by omega)
  by_cases he : i = f ∧ j = t
  · obtain ⟨rfl, rfl⟩ := he
    have hw : withB D i j v i j = min (D i j) v := by simp [withB]
    rw [hw] at hD ⊢
    have ht0 := h0 j ht
    by_cases hai : D a i < 100000
    · have hj0 : D j j < 100000 := by omega
      refine ⟨.inr ⟨hai, hj0⟩, ?_⟩
      show _ ≤ (if D a i < 100000 ∧ D j i < 100000 then (if D a i < 100000 then min (D a i) (D a i + v + D j i) else D a i + v + D j i) else D a i) + min (D i j) v
      show (if D a i < 100000 ∧ D j j < 100000 then (if D a j < 100000 then min (D a j) (D a i + v + D j j) else D a i + v + D j j) else D a j) ≤ _
      have l1 : (if D a i < 100000 ∧ D j j < 100000 then (if D a j < 100000 then min (D a j) (D a i + v + D j j) else D a i + v + D j j) else D a j) ≤ D a i + v := by
        rw [if_pos ⟨hai, hj0⟩]; split <;> omega
      have l2 : (if D a i < 100000 ∧ D j i < 100000 then (if D a i < 100000 then min (D a i) (D a i + v + D j i) else D a i + v + D j i) else D a i) = D a i := by
        split
        · rename_i h; have := hv h.2; omega
        · rfl
      rw [l2]
      by_cases hij : D i j < 100000
      · have k := (key hij).2
        rw [l2] at k
        omega
      · omega
    · exfalso
      rcases hF with h | h
      · exact hai h
      · exact hai h.1
  · have hw : withB D f t v i j = D i j := by simp [withB, he]
    rw [hw] at hD ⊢
    exact key hD
theorem fits_with {D : Tbl} {n : Nat} (hc : Closed D n) (h0 : ∀ i, i < n → D i i = 0) {f t : Nat} {v : Int} (hf : f < n) (ht : t < n) (hv : D t f < 100000 → 0 ≤ D t f + v) (hv2 : v < 100000) : Fits (withB D f t v) n :=
  fits_of_pots (fun i hi => by have := withB_le D f t v i i; have := h0 i hi; omega) fun i hi => ⟨_, _, pot_with hc h0 hf ht hi hv hv2, .inl (by have := h0 i hi; omega)⟩
/-! ### closing in place -/
def ipStep (k i j : Nat) (T : Tbl) : Tbl := fun a b => if a = i ∧ b = j then (if T i k < 100000 ∧ T k j < 100000 then min (T i j) (T i k + T k j) else T i j) else T a b
def ipRow (k i : Nat) (T : Tbl) : Nat → Tbl
  | 0 => T
  | j+1 => ipStep k i j (ipRow k i T j)
def ipRows (k n : Nat) (T : Tbl) : Nat → Tbl
  | 0 => T
  | i+1 => ipRow k i (ipRows k n T i) n
def ipAll (n : Nat) (T : Tbl) : Nat → Tbl
  | 0 => T
  | k+1 => ipRows k n (ipAll n T k) n
/-- what is done when row i has come to column j -/
def Done (i j a b : Nat) : Prop := a < i ∨ (a = i ∧ b < j)
theorem ip_rec {n k : Nat} (P : Nat → Nat → Tbl → Prop) (T : Tbl) (h0 : P 0 0 T) (hs : ∀ i j S, i < n → j < n → P i j S → P i (j+1) (ipStep k i j S)) (hr : ∀ i S, i < n → P i n S → P (i+1) 0 S) :
    ∀ i, i ≤ n → P i 0 (ipRows k n T i) ∧ (i < n → ∀ j, j ≤ n → P i j (ipRow k i (ipRows k n T i) j)) := by
  have row : ∀ i S, i < n → P i 0 S → ∀ j, j ≤ n → P i j (ipRow k i S j) := by
    intro i S hi h j
    induction j with
    | zero => intro _; exact h
    | succ j ih => intro hj; exact hs i j _ hi (by omega) (ih (by omega))
  intro i
  induction i with
  | zero => intro _; exact ⟨h0, fun hi j hj => row 0 T hi h0 j hj⟩
  | succ i ih =>
    intro hi
    have := (ih (by omega)).2 (by omega) n (Nat.le_refl _)
    have p : P (i+1) 0 (ipRows k n T (i+1)) := hr i _ (by omega) this
    exact ⟨p, fun hi' j hj => row (i+1) _ hi' p j hj⟩
/-- with 0 from the point to itself, a stage in place is a stage -/
theorem ip_same {n k : Nat} (T : Tbl) (hk : k < n) (h0 : T k k = 0) : ∀ i j, i < n → j < n → ipRows k n T n i j = nextT k T i j := by
  have key := (ip_rec (n := n) (k := k) (fun i j S => ∀ a b, a < n → b < n → (Done i j a b → S a b = nextT k T a b) ∧ (¬ Done i j a b → S a b = T a b)) T
    (fun a b _ _ => ⟨fun h => by unfold Done at h; omega, fun _ => rfl⟩) ?_ ?_ n (Nat.le_refl _)).1
  · intro i j hi hj
    exact (key i j hi hj).1 (.inl hi)
  · intro i j S hi hj hS a b ha hb
    have ek : ∀ a, a < n → S a k = T a k := fun a ha => by
      by_cases hd : Done i j a k
      · rw [(hS a k ha hk).1 hd]; unfold nextT; rw [h0]; split <;> omega
      · exact (hS a k ha hk).2 hd
    have er : ∀ b, b < n → S k b = T k b := fun b hb => by
      by_cases hd : Done i j k b
      · rw [(hS k b hk hb).1 hd]; unfold nextT; rw [h0]; split <;> omega
      · exact (hS k b hk hb).2 hd
    unfold ipStep
    by_cases he : a = i ∧ b = j
    · obtain ⟨rfl, rfl⟩ := he
      have hn : S a b = T a b := (hS a b ha hb).2 (by unfold Done; omega)
      refine ⟨fun _ => ?_, fun h => absurd (.inr ⟨rfl, Nat.lt_succ_self _⟩) h⟩
      rw [if_pos ⟨rfl, rfl⟩, ek a ha, er b hb, hn]; rfl
    · rw [if_neg he]
      refine ⟨fun h => (hS a b ha hb).1 ?_, fun h => (hS a b ha hb).2 ?_⟩ <;> unfold Done at * <;> omega
  · intro i S hi hS a b ha hb
    refine ⟨fun h => (hS a b ha hb).1 ?_, fun h => (hS a b ha hb).2 ?_⟩ <;> unfold Done at * <;> omega
theorem ipStep_le (k i j : Nat) (T : Tbl) (a b : Nat) : ipStep k i j T a b ≤ T a b := by
  unfold ipStep
  split
  · rename_i h; obtain ⟨rfl, rfl⟩ := h; split <;> omega
  · omega
theorem ipRow_le (k i : Nat) (T : Tbl) (a b : Nat) : ∀ j, ipRow k i T j a b ≤ T a b
  | 0 => Int.le_refl _
  | j+1 => Int.le_trans (ipStep_le k i j _ a b) (ipRow_le k i T a b j)
theorem ipRows_le (k n : Nat) (T : Tbl) (a b : Nat) : ∀ i, ipRows k n T i a b ≤ T a b
  | 0 => Int.le_refl _
  | i+1 => Int.le_trans (ipRow_le k i _ a b n) (ipRows_le k n T a b i)
theorem ipAll_le (n : Nat) (T : Tbl) (a b : Nat) {k k' : Nat} (h : k ≤ k') : ipAll n T k' a b ≤ ipAll n T k a b := by
  induction k' with
  | zero => obtain rfl : k = 0 := by omega
            exact Int.le_refl _
  | succ m ih =>
    by_cases e : k = m + 1
    · subst e; exact Int.le_refl _
    · exact Int.le_trans (ipRows_le m n _ a b n) (ih (by omega))
/-- in place, while no way from a point to itself is less than 0 -/
theorem ip_all {n : Nat} {T : Tbl} (h0 : ∀ i, i < n → T i i ≤ 0) : ∀ k, k ≤ n → (∀ m, m < k → 0 ≤ upT T m m m) → ∀ i j, i < n → j < n → ipAll n T k i j = upT T k i j
  | 0, _, _, i, j, _, _ => rfl
  | k+1, hk, hm, i, j, hi, hj => by
    have ih := ip_all h0 k (by omega) fun m h => hm m (by omega)
    have hkk := ih k k (by omega) (by omega)
    have h1 := hm k (by omega)
    have h2 := upT_le T k k k
    have h3 := h0 k (by omega)
    show ipRows k n (ipAll n T k) n i j = nextT k (upT T k) i j
    rw [ip_same (ipAll n T k) (by omega) (by omega) i j hi hj]
    unfold nextT
    rw [ih i k hi (by omega), ih k j (by omega) hj, ih i j hi hj]
theorem ip_fits {n : Nat} {T : Tbl} (h0 : ∀ i, i < n → T i i ≤ 0) (hf : Fits T n) : ∀ i j, i < n → j < n → ipAll n T n i j = upT T n i j :=
  ip_all h0 n (Nat.le_refl _) fun m hm => Int.le_trans (hf m hm) (upT_mono T (by omega) m m)
theorem ip_fits_iff {n : Nat} {T : Tbl} (h0 : ∀ i, i < n → T i i ≤ 0) : (∀ i, i < n → 0 ≤ ipAll n T n i i) ↔ Fits T n := by
  constructor
  · intro h
    have all : ∀ k, k ≤ n → ∀ m, m < k → 0 ≤ upT T m m m := by
      intro k
      induction k with
      | zero => intro _ m hm; omega
      | succ k ih =>
        intro hk m hm
        by_cases e : m < k
        · exact ih (by omega) m e
        · obtain rfl : m = k := by omega
          rw [← ip_all h0 m (by omega) (ih (by omega)) m m (by omega) (by omega)]
          exact Int.le_trans (h m (by omega)) (ipAll_le n T m m (by omega))
    intro i hi
    rw [← ip_all h0 n (Nat.le_refl _) (all n (Nat.le_refl _)) i i hi hi]
    exact h i hi
  · intro h i hi
    rw [ip_fits h0 h i i hi hi]
    exact h i hi
/-- how low the numbers may come within one stage -/
theorem ip_low {n k : Nat} {T : Tbl} {l : Int} (hk : k < n) (hl : l ≤ 0) (hT : ∀ a b, a < n → b < n → l ≤ T a b ∧ T a b ≤ 100000) :
    ∀ i, i ≤ n → (∀ a b, a < n → b < n → 6 * l ≤ ipRows k n T i a b ∧ ipRows k n T i a b ≤ 100000) ∧ (i < n → ∀ j, j ≤ n → ∀ a b, a < n → b < n → 6 * l ≤ ipRow k i (ipRows k n T i) j a b ∧ ipRow k i (ipRows k n T i) j a b ≤ 100000) := by
  have key := ip_rec (n := n) (k := k) (fun i j S => (∀ a b, a < n → b < n → ¬ Done i j a b → S a b = T a b) ∧ (∀ a b, a < n → b < n → 6 * l ≤ S a b ∧ S a b ≤ 100000) ∧ (∀ a, a < n → 3 * l ≤ S a k ∧ 3 * l ≤ S k a) ∧ 2 * l ≤ S k k) T
    ⟨fun a b _ _ _ => rfl, fun a b ha hb => by have := hT a b ha hb; omega, fun a ha => by have := hT a k ha hk; have := hT k a hk ha; omega, by have := hT k k hk hk; omega⟩ ?_ ?_
  · intro i hi
    exact ⟨(key i hi).1.2.1, fun h j hj => ((key i hi).2 h j hj).2.1⟩
  · intro i j S hi hj ⟨s1, s2, s3, s4⟩
    have hn : ¬ Done i j i j := by unfold Done; omega
    have e1 := s1 i j hi hj hn
    have ht := hT i j hi hj
    have hik := s3 i hi
    have hkj := s3 j hj
    have up := s2 i j hi hj
    refine ⟨fun a b ha hb hd => ?_, fun a b ha hb => ?_, fun a ha => ⟨?_, ?_⟩, ?_⟩
    · unfold ipStep
      rw [if_neg (fun h => hd (.inr ⟨h.1, by omega⟩))]
      exact s1 a b ha hb fun h => hd (by unfold Done at *; omega)
    · unfold ipStep
      split
      · split <;> omega
      · exact s2 a b ha hb
    · unfold ipStep
      split
      · rename_i h
        obtain ⟨rfl, rfl⟩ := h
        have ek := s1 a k ha hk hn
        have := hT a k ha hk
        split <;> omega
      · exact (s3 a ha).1
    · unfold ipStep
      split
      · rename_i h
        obtain ⟨rfl, rfl⟩ := h
        have ek := s1 k a hk ha hn
        have := hT k a hk ha
        split <;> omega
      · exact (s3 a ha).2
    · unfold ipStep
      split
      · rename_i h
        obtain ⟨rfl, rfl⟩ := h
        have ek := s1 k k hk hk hn
        have := hT k k hk hk
        split <;> omega
      · exact s4
  · intro i S hi ⟨s1, s2, s3, s4⟩
    exact ⟨fun a b ha hb hd => s1 a b ha hb fun h => hd (by unfold Done at *; omega), s2, s3, s4⟩
theorem ipAll_low {n : Nat} {T : Tbl} {l : Int} (hl : l ≤ 0) (hT : ∀ a b, a < n → b < n → l ≤ T a b ∧ T a b ≤ 100000) : ∀ k, k ≤ n → ∀ a b, a < n → b < n → 6 ^ k * l ≤ ipAll n T k a b ∧ ipAll n T k a b ≤ 100000
  | 0, _, a, b, ha, hb => by have := hT a b ha hb; show 6 ^ 0 * l ≤ T a b ∧ T a b ≤ 100000; omega
  | k+1, hk, a, b, ha, hb => by
    have ih := ipAll_low hl hT k (by omega)
    have hp : (6 : Int) ^ k * l ≤ 0 := Int.mul_nonpos_of_nonneg_of_nonpos (Int.le_of_lt (Int.pow_pos (by decide))) hl
    have := (ip_low (n := n) (k := k) (by omega) hp ih n (Nat.le_refl _)).1 a b ha hb
    have e : (6 : Int) ^ (k+1) * l = 6 * (6 ^ k * l) := by rw [Int.pow_succ, Int.mul_comm (6 ^ k) 6, Int.mul_assoc]
    rw [e]
    exact this
/-- and how low within stage k -/
theorem ip_within {n : Nat} {T : Tbl} {l : Int} (hn : n ≤ 6) (hl : -2000 ≤ l) (hl0 : l ≤ 0) (hT : ∀ a b, a < n → b < n → l ≤ T a b ∧ T a b ≤ 100000) : ∀ k, k < n → ∀ i, i < n → ∀ j, j ≤ n → ∀ a b, a < n → b < n →
    -100000000 ≤ ipRow k i (ipRows k n (ipAll n T k) i) j a b ∧ ipRow k i (ipRows k n (ipAll n T k) i) j a b ≤ 100000 := by
  intro k hk i hi j hj a b ha hb
  have ih := ipAll_low hl0 hT k (by omega)
  have key : ∀ m : Fin 6, (1 : Int) ≤ 6 ^ m.val ∧ (6 : Int) ^ m.val ≤ 7776 := by decide
  have h6 := key ⟨k, by omega⟩
  dsimp only at h6
  have hp : (6 : Int) ^ k * l ≤ 0 := Int.mul_nonpos_of_nonneg_of_nonpos (by omega) hl0
  have hq : -(7776 * 2000) ≤ (6 : Int) ^ k * l := by
    have h1 : (6 : Int) ^ k * (-l) ≤ 7776 * (-l) := Int.mul_le_mul_of_nonneg_right h6.2 (by omega)
    have h2 : (7776 : Int) * (-l) ≤ 7776 * 2000 := by omega
    have h3 : (6 : Int) ^ k * (-l) = -((6 : Int) ^ k * l) := Int.mul_neg _ _
    omega
  have := ((ip_low hk hp ih i (by omega)).2 hi j hj) a b ha hb
  omega
/-! ### bounds of what is found -/
theorem up_high {D : Tbl} {n : Nat} {u : Int} (hu : 0 ≤ u) (h : ∀ i j, i < n → j < n → D i j < 100000 → D i j ≤ u) : ∀ k, k ≤ n → ∀ i j, i < n → j < n → upT D k i j < 100000 → upT D k i j ≤ u * 2 ^ k
  | 0, _, i, j, hi, hj, hd => by have := h i j hi hj hd; show D i j ≤ u * 2 ^ 0; omega
  | k+1, hk, i, j, hi, hj, hd => by
    have ih := up_high hu h k (by omega)
    have e : u * (2 : Int) ^ (k+1) = u * 2 ^ k + u * 2 ^ k := by rw [Int.pow_succ, ← Int.mul_assoc]; omega
    have hp : (0 : Int) ≤ u * 2 ^ k := Int.mul_nonneg hu (Int.le_of_lt (Int.pow_pos (by decide)))
    rw [e]
    change nextT k (upT D k) i j < 100000 at hd
    show nextT k (upT D k) i j ≤ _
    rcases nextT_or k (upT D k) i j with e' | ⟨a, b, e'⟩
    · have := ih i j hi hj (by omega); omega
    · have := ih i k hi (by omega) a
      have := ih k j (by omega) hj b
      omega
theorem up_far {D : Tbl} {n : Nat} (h : ∀ i j, i < n → j < n → D i j ≤ 100000) : ∀ k i j, i < n → j < n → upT D k i j ≤ 100000 := fun k i j hi hj => Int.le_trans (upT_le D k i j) (h i j hi hj)
theorem pow_two_small (k : Nat) (h : k ≤ 6) : (1 : Int) ≤ 2 ^ k ∧ (2 : Int) ^ k ≤ 64 := by
  have key : ∀ m : Fin 7, (1 : Int) ≤ 2 ^ m.val ∧ (2 : Int) ^ m.val ≤ 64 := by decide
  exact key ⟨k, by omega⟩
theorem nosat_small {D : Tbl} {n : Nat} (hn : n ≤ 6) {u : Int} (hu : 0 ≤ u) (hu2 : u ≤ 1500) (h : ∀ i j, i < n → j < n → D i j < 100000 → D i j ≤ u) : NoSat D n := by
  intro k hk i j hi hj h1 h2
  have a := up_high hu h k (by omega) i k hi hk h1
  have b := up_high hu h k (by omega) k j hk hj h2
  have key : ∀ m : Fin 6, (2 : Int) ^ m.val ≤ 32 := by decide
  have p := key ⟨k, by omega⟩
  dsimp only at p
  have : u * (2 : Int) ^ k ≤ u * 32 := Int.mul_le_mul_of_nonneg_left p hu
  omega
theorem up_low {D : Tbl} {n : Nat} {l : Int} (hl : l ≤ 0) (h : ∀ i j, i < n → j < n → l ≤ D i j) : ∀ k, k ≤ n → ∀ i j, i < n → j < n → l * 2 ^ k ≤ upT D k i j
  | 0, _, i, j, hi, hj => by have := h i j hi hj; show l * 2 ^ 0 ≤ D i j; omega
  | k+1, hk, i, j, hi, hj => by
    have ih := up_low hl h k (by omega)
    have e : l * (2 : Int) ^ (k+1) = l * 2 ^ k + l * 2 ^ k := by rw [Int.pow_succ, ← Int.mul_assoc]; omega
    have hp : l * (2 : Int) ^ k ≤ 0 := Int.mul_nonpos_of_nonpos_of_nonneg hl (Int.le_of_lt (Int.pow_pos (by decide)))
    rw [e]
    show _ ≤ nextT k (upT D k) i j
    rcases nextT_or k (upT D k) i j with e' | ⟨a, b, e'⟩
    · have := ih i j hi hj; omega
    · have := ih i k hi (by omega)
      have := ih k j (by omega) hj
      omega
theorem up_low6 {D : Tbl} {n : Nat} (hn : n ≤ 6) {l : Int} (hl : l ≤ 0) (h : ∀ i j, i < n → j < n → l ≤ D i j) (k : Nat) (hk : k ≤ n) (i j : Nat) (hi : i < n) (hj : j < n) : l * 64 ≤ upT D k i j := by
  have h1 := up_low hl h k hk i j hi hj
  have h2 := (pow_two_small k (by omega)).2
  have : (-l) * (2 : Int) ^ k ≤ (-l) * 64 := Int.mul_le_mul_of_nonneg_left h2 (by omega)
  rw [Int.neg_mul, Int.neg_mul] at this
  omega
theorem diag_zero {D : Tbl} {n : Nat} (h0 : ∀ i, i < n → D i i ≤ 0) (hf : Fits D n) : ∀ i, i < n → upT D n i i = 0 := fun i hi => by
  have := hf i hi; have := upT_le D n i i; have := h0 i hi; omega
/-! ### needless bounds, tight ones -/
/-- a table and a bound more: if what follows is less than the bound, it follows without -/
theorem needless_of {D : Tbl} {n f t : Nat} {m : Int} (h0 : ∀ i, i < n → D i i ≤ 0) (hs : NoSat D n) (hs2 : NoSat (withB D f t m) n) (hfit : Fits (withB D f t m) n) (hf : f < n) (ht : t < n) (hm : m < 100000)
    (hlt : upT (withB D f t m) n f t < m) : upT D n f t ≤ m := by
  rcases Int.lt_or_le m (upT D n f t) with hgt | h
  · exfalso
    have hfD : Fits D n := fits_less (fun i j _ _ => withB_le D f t m i j) hfit
    have hc := closed_of hs hfD
    have hz := diag_zero h0 hfD
    have hw0 : ∀ i, i < n → withB D f t m i i ≤ 0 := fun i hi => by have := withB_le D f t m i i; have := h0 i hi; omega
    -- the way back and the bound are together at least 0
    have hback : upT D n t f < 100000 → 0 ≤ upT D n t f + m := by
      intro hb
      rcases Int.lt_or_le (upT D n t f + m) 0 with hneg | h
      · exfalso
        have hle := upT_less (n := n) (fun i j _ _ => withB_le D f t m i j) n (Nat.le_refl _) t f ht hf
        have hft : upT (withB D f t m) n f t ≤ m := by
          have := upT_le (withB D f t m) n f t
          have : withB D f t m f t ≤ m := by unfold withB; rw [if_pos ⟨rfl, rfl⟩]; omega
          omega
        have := (closed_of hs2 hfit t ht f f hf hf (by omega) (by omega)).1
        have := hfit f hf
        omega
      · exact h
    have hp := pot_with hc hz hf ht hf hback hm
    have hD : ∀ i j, i < n → j < n → withB (upT D n) f t m i j ≤ withB D f t m i j := fun i j hi hj => by
      unfold withB; have := upT_le D n i j; split <;> omega
    have hp2 := pot_weak hp hD
    have hff := hz f hf
    have htt := hz t ht
    have := pot_up hp2 n (Nat.le_refl _) f t hf ht (.inl (by omega)) (by omega)
    have h2 := this.2
    dsimp only at h2
    have e1 : (if upT D n f f < 100000 ∧ upT D n t f < 100000 then (if upT D n f f < 100000 then min (upT D n f f) (upT D n f f + m + upT D n t f) else upT D n f f + m + upT D n t f) else upT D n f f) = 0 := by
      split
      · rename_i h; have := hback h.2; rw [if_pos h.1]; omega
      · exact hff
    have e2 : m ≤ (if upT D n f f < 100000 ∧ upT D n t t < 100000 then (if upT D n f t < 100000 then min (upT D n f t) (upT D n f f + m + upT D n t t) else upT D n f f + m + upT D n t t) else upT D n f t) := by
      rw [if_pos ⟨by omega, by omega⟩]; split <;> omega
    omega
  · exact h
end Go.Proofs.Ytffcfambgcaikaa
