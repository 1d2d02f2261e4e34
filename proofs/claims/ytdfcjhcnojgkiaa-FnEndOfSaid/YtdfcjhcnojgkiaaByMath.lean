/- Plain facts on begins made by an order, and as time goes on. No program in sight. No condition but those each lemma names. -/
import Derived.Test.YtdfcjhcnojgkiaaHands
namespace Go.Proofs.Ytdfcjhcnojgkiaa
open Go.RowKit
set_option linter.unusedVariables false
set_option linter.unusedSimpArgs false
/-- the i-th number of an order is right -/
def ordAt (o : List Int) (m : Nat) (i : Nat) : Bool := inB (o.getD i 0) 0 ((m : Int) - 1) && (List.range i).all (fun j => o.getD j 0 != o.getD i 0)
/-- the order has each number just once -/
def orderOk (o : List Int) (m : Nat) : Bool := (List.range o.length).all (ordAt o m) && (decide (m ≤ 6) && decide (o.length = m))
theorem ordAt_iff {o : List Int} {m i : Nat} : ordAt o m i = true ↔ (0 ≤ o.getD i 0 ∧ o.getD i 0 ≤ (m : Int) - 1) ∧ ∀ j, j < i → o.getD j 0 ≠ o.getD i 0 := by
  simp only [ordAt, Bool.and_eq_true, inB_iff, List.all_eq_true, List.mem_range, bne_iff_ne]
theorem order_iff {o : List Int} {m : Nat} : orderOk o m = true ↔ (∀ i, i < o.length → ordAt o m i = true) ∧ m ≤ 6 ∧ o.length = m := by
  simp only [orderOk, Bool.and_eq_true, List.all_eq_true, List.mem_range, decide_eq_true_eq]
theorem order_not {o : List Int} {m i : Nat} (hi : i < o.length) (h : ordAt o m i = false) : orderOk o m = false := by
  cases hc : orderOk o m
  · rfl
  · have := (order_iff.1 hc).1 i hi
    rw [h] at this; cases this
theorem pigeon : ∀ (m : Nat) (f : Nat → Nat), (∀ i, i < m → f i < m) → (∀ i j, i < m → j < m → f i = f j → i = j) → ∀ k, k < m → ∃ i, i < m ∧ f i = k
  | 0, _, _, _, k, hk => by omega
  | m+1, f, hr, hi, k, hk => by
    have hfm := hr m (by omega)
    have hg : ∀ i, i < m → (if f i = m then f m else f i) < m := by
      intro i hlt
      have := hr i (by omega)
      split
      · rename_i h
        have : f m ≠ m := fun e => by have := hi i m (by omega) (by omega) (by omega); omega
        omega
      · omega
    have hj : ∀ i j, i < m → j < m → (if f i = m then f m else f i) = (if f j = m then f m else f j) → i = j := by
      intro i j hlt hlj h
      split at h <;> split at h
      · exact hi i j (by omega) (by omega) (by omega)
      · have := hi m j (by omega) (by omega) h; omega
      · have := hi i m (by omega) (by omega) h; omega
      · exact hi i j (by omega) (by omega) h
    have ih := pigeon m (fun i => if f i = m then f m else f i) hg hj
    by_cases hka : k = f m
    · exact ⟨m, by omega, hka.symm⟩
    by_cases hkm : k = m
    · obtain ⟨i, hi1, hi2⟩ := ih (f m) (by omega)
      split at hi2
      · rename_i h; exact ⟨i, by omega, by omega⟩
      · have := hi i m (by omega) (by omega) hi2; omega
    · obtain ⟨i, hi1, hi2⟩ := ih k (by omega)
      split at hi2
      · omega
      · exact ⟨i, by omega, hi2⟩
/-- the i-th task of an order -/
def oN (o : List Int) (i : Nat) : Nat := (o.getD i 0).toNat
theorem order_in {o : List Int} {m : Nat} (h : orderOk o m = true) : m ≤ 6 ∧ o.length = m ∧ ∀ i, i < m → o.getD i 0 = (oN o i : Int) ∧ oN o i < m := by
  obtain ⟨h1, h2, h3⟩ := order_iff.1 h
  refine ⟨h2, h3, fun i hi => ?_⟩
  have := (ordAt_iff.1 (h1 i (by omega))).1
  unfold oN
  omega
theorem order_onto {o : List Int} {m : Nat} (h : orderOk o m = true) (k : Nat) (hk : k < m) : ∃ i, i < m ∧ oN o i = k := by
  obtain ⟨h1, h2, h3⟩ := order_iff.1 h
  have hin := order_in h
  refine pigeon m (oN o) (fun i hi => (hin.2.2 i hi).2) (fun i j hi hj e => ?_) k hk
  have e1 := (hin.2.2 i hi).1
  have e2 := (hin.2.2 j hj).1
  rcases Nat.lt_trichotomy i j with h4 | h4 | h4
  · exact absurd (by rw [e1, e2, e]) ((ordAt_iff.1 (h1 j (by omega))).2 i h4)
  · exact h4
  · exact absurd (by rw [e1, e2, e]) ((ordAt_iff.1 (h1 i (by omega))).2 j h4)
def Pj.ordFit (p : Pj) (h : Int) (o : List Int) : Bool := p.ok && (inB h 1 3 && orderOk o p.lo.length)
theorem ordFit_in {p : Pj} {h : Int} {o : List Int} (hf : p.ordFit h o = true) : p.ok = true ∧ (1 ≤ h ∧ h ≤ 3) ∧ orderOk o p.lo.length = true := by
  simp only [Pj.ordFit, Bool.and_eq_true, inB_iff] at hf
  exact hf
/-- all those after which a task comes have begun -/
def Pj.pre (p : Pj) (l : List Int) (t : Nat) : Bool := (List.range t).all (fun k => !(bit (p.A t) k) || decide (lF l k ≠ -1))
theorem pre_iff {p : Pj} {l : List Int} {t : Nat} : p.pre l t = true ↔ ∀ k, k < t → bit (p.A t) k = true → lF l k ≠ -1 := by
  simp only [Pj.pre, List.all_eq_true, List.mem_range, Bool.or_eq_true, Bool.not_eq_true', decide_eq_true_eq]
  constructor
  · intro h k hk hb
    rcases h k hk with h1 | h1
    · rw [h1] at hb; cases hb
    · exact h1
  · intro h k hk
    cases hb : bit (p.A t) k
    · exact .inl rfl
    · exact .inr (h k hk hb)
theorem pre_not {p : Pj} {l : List Int} {t k : Nat} (hk : k < t) (hb : bit (p.A t) k = true) (hl : lF l k = -1) : p.pre l t = false := by
  cases hc : p.pre l t
  · rfl
  · exact absurd hl (pre_iff.1 hc k hk hb)
def Pj.may (p : Pj) (l : List Int) (t : Nat) : Bool := decide (lF l t = -1) && p.pre l t
/-- a hand is free from a time on, as long as a task lasts -/
def Pj.free (p : Pj) (l : List Int) (h : Int) (t : Nat) (s : Int) : Bool := (List.range (p.L t).toNat).all fun d => decide (busyTo (lF l) p.L (s + d) p.lo.length < h)
theorem free_iff {p : Pj} {l : List Int} {h : Int} {t : Nat} {s : Int} : p.free l h t s = true ↔ ∀ d : Nat, (d : Int) < p.L t → busyTo (lF l) p.L (s + d) p.lo.length < h := by
  simp only [Pj.free, List.all_eq_true, List.mem_range, decide_eq_true_eq]
  exact ⟨fun H d hd => H d (by omega), fun H d hd => H d (by omega)⟩
theorem free_not {p : Pj} {l : List Int} {h : Int} {t : Nat} {s : Int} {d : Nat} (hd : (d : Int) < p.L t) (hb : h ≤ busyTo (lF l) p.L (s + d) p.lo.length) : p.free l h t s = false := by
  cases hc : p.free l h t s
  · rfl
  · have := free_iff.1 hc d hd
    omega
/-- the first time from s on at which a task may begin -/
def Pj.seek (p : Pj) (l : List Int) (h : Int) (t : Nat) : Nat → Int → Int
  | 0, s => s
  | f+1, s => if p.free l h t s then s else p.seek l h t f (s+1)
theorem seek_at {p : Pj} {l : List Int} {h : Int} {t : Nat} : ∀ (m f : Nat) (s : Int), m ≤ f → (∀ d : Nat, d < m → p.free l h t (s + d) = false) → p.free l h t (s + m) = true → p.seek l h t f s = s + m
  | 0, 0, s, _, _, _ => by simp [Pj.seek]
  | 0, f+1, s, _, _, hf => by
    unfold Pj.seek
    rw [if_pos (by simpa using hf)]
    simp
  | m+1, 0, s, hm, _, _ => by omega
  | m+1, f+1, s, hm, hn, hf => by
    have h0 := hn 0 (by omega)
    unfold Pj.seek
    rw [if_neg (by rw [show s = s + ((0 : Nat) : Int) by simp, h0]; simp)]
    rw [seek_at m f (s+1) (by omega) (fun d hd => by have := hn (d+1) (by omega); rw [show s + 1 + (d : Int) = s + ((d+1 : Nat) : Int) by omega]; exact this) (by rw [show s + 1 + (m : Int) = s + ((m+1 : Nat) : Int) by omega]; exact hf)]
    omega
theorem seek_le {p : Pj} {l : List Int} {h : Int} {t : Nat} {M : Int} (hM : p.free l h t M = true) : ∀ (f : Nat) (s : Int), s ≤ M → M ≤ s + f → s ≤ p.seek l h t f s ∧ p.seek l h t f s ≤ M
  | 0, s, h1, h2 => by unfold Pj.seek; omega
  | f+1, s, h1, h2 => by
    unfold Pj.seek
    split
    · omega
    · rename_i hn
      have : s ≠ M := fun e => hn (by rw [e]; exact hM)
      have := seek_le hM f (s+1) (by omega) (by omega)
      omega
def Pj.timeOf (p : Pj) (l : List Int) (h : Int) (t : Nat) : Int := p.seek l h t 200 (startUp p.L p.A (lF l) t t)
/-- begins of all tasks, those that have begun end by M -/
structure Begun (p : Pj) (M : Int) (l : List Int) : Prop where
  len : l.length = p.lo.length
  at_ : ∀ j, j < p.lo.length → lF l j = -1 ∨ (0 ≤ lF l j ∧ lF l j + p.L j ≤ M)
theorem Begun.idle {p : Pj} {M : Int} {l : List Int} (hb : Begun p M l) {t : Int} (ht : M ≤ t) : ∀ k, k ≤ p.lo.length → busyTo (lF l) p.L t k = 0
  | 0, _ => rfl
  | k+1, hk => by
    have ih := hb.idle ht k (by omega)
    have := hb.at_ k (by omega)
    unfold busyTo
    rw [if_neg (by omega), ih]
theorem Begun.free {p : Pj} {M : Int} {l : List Int} (hb : Begun p M l) {h : Int} (hh : 1 ≤ h) {s : Int} (hs : M ≤ s) (t : Nat) : p.free l h t s = true :=
  free_iff.2 fun d hd => by rw [hb.idle (by omega) _ (Nat.le_refl _)]; omega
theorem Begun.low {p : Pj} {M : Int} {l : List Int} (hb : Begun p M l) (hM : 20 ≤ M) (hL : ∀ k, k < p.lo.length → 1 ≤ p.L k ∧ p.L k ≤ 20) (t : Nat) : ∀ j, j ≤ p.lo.length → startUp p.L p.A (lF l) t j ≤ M
  | 0, _ => by unfold startUp; omega
  | j+1, hj => by
    have ih := hb.low hM hL t j (by omega)
    have h1 := hb.at_ j (by omega)
    have h2 := hL j (by omega)
    unfold startUp
    split <;> omega
theorem Begun.time {p : Pj} {M : Int} {l : List Int} (hb : Begun p M l) (hM : 20 ≤ M) (hM2 : M ≤ 200) (hL : ∀ k, k < p.lo.length → 1 ≤ p.L k ∧ p.L k ≤ 20) {h : Int} (hh : 1 ≤ h) {t : Nat} (ht : t < p.lo.length) :
    0 ≤ p.timeOf l h t ∧ p.timeOf l h t ≤ M := by
  have h0 := startUp_pos p.L p.A (lF l) t t
  have h1 := hb.low hM hL t t (by omega)
  have := seek_le (hb.free hh (Int.le_refl M) t) 200 (startUp p.L p.A (lF l) t t) h1 (by omega)
  unfold Pj.timeOf
  omega
theorem lF_set {l : List Int} {t : Nat} {x : Int} (ht : t < l.length) (j : Nat) : lF (l.set t x) j = if j = t then x else lF l j := by
  unfold lF
  rw [List.getD_eq_getElem?_getD, List.getElem?_set, List.getD_eq_getElem?_getD]
  by_cases h : t = j
  · subst h; simp [ht]
  · rw [if_neg h, if_neg (fun e => h e.symm)]
theorem Begun.put {p : Pj} {M : Int} {l : List Int} (hb : Begun p M l) {t : Nat} (ht : t < p.lo.length) {x N : Int} (hx : 0 ≤ x) (hN : x + p.L t ≤ N) (hMN : M ≤ N) : Begun p N (l.set t x) := by
  refine ⟨by rw [List.length_set]; exact hb.len, fun j hj => ?_⟩
  rw [lF_set (by rw [hb.len]; exact ht)]
  by_cases h : j = t
  · subst h; rw [if_pos rfl]; exact .inr ⟨hx, hN⟩
  · rw [if_neg h]
    rcases hb.at_ j hj with h1 | h1
    · exact .inl h1
    · exact .inr ⟨h1.1, by omega⟩
/-- one more begin -/
def Pj.step (p : Pj) (h : Int) (o l : List Int) : List Int :=
  match (List.range o.length).find? (fun i => p.may l (oN o i)) with
  | some i => l.set (oN o i) (p.timeOf l h (oN o i))
  | none => l
theorem step_at {p : Pj} {h : Int} {o l : List Int} {i : Nat} (hi : i < o.length) (hm : p.may l (oN o i) = true) (hn : ∀ j, j < i → p.may l (oN o j) = false) : p.step h o l = l.set (oN o i) (p.timeOf l h (oN o i)) := by
  have : (List.range o.length).find? (fun i => p.may l (oN o i)) = some i := by
    rw [List.find?_range_eq_some]
    exact ⟨hm, List.mem_range.2 hi, fun j hj => by simp [hn j hj]⟩
  unfold Pj.step
  rw [this]
theorem step_none {p : Pj} {h : Int} {o l : List Int} (hn : ∀ j, j < o.length → p.may l (oN o j) = false) : p.step h o l = l := by
  have : (List.range o.length).find? (fun i => p.may l (oN o i)) = none := by
    rw [List.find?_eq_none]
    intro j hj
    rw [hn j (List.mem_range.1 hj)]
    simp
  unfold Pj.step
  rw [this]
def Pj.byTo (p : Pj) (h : Int) (o : List Int) : Nat → List Int
  | 0 => List.replicate p.lo.length (-1)
  | k+1 => p.step h o (p.byTo h o k)
def Pj.beginsBy (p : Pj) (h : Int) (o : List Int) : List Int := if p.ordFit h o then p.byTo h o p.lo.length else []
theorem none_at (n j : Nat) (hj : j < n) : lF (List.replicate n (-1)) j = -1 := by
  unfold lF
  rw [List.getD_eq_getElem?_getD, List.getElem?_replicate, if_pos hj]; rfl
theorem begun_none (p : Pj) (M : Int) : Begun p M (List.replicate p.lo.length (-1)) :=
  ⟨List.length_replicate, fun j hj => .inl (none_at _ _ hj)⟩
theorem begun_step {p : Pj} {h : Int} {o l : List Int} {M : Int} (hf : p.ordFit h o = true) (hb : Begun p M l) (hM : 20 ≤ M) (hM2 : M ≤ 200) : Begun p (M + 20) (p.step h o l) := by
  obtain ⟨hok, hh, ho⟩ := ordFit_in hf
  have hL := (ok_upto hok).2.2.1
  have hin := order_in ho
  unfold Pj.step
  split
  · rename_i i hi
    rw [List.find?_range_eq_some] at hi
    have hlt := List.mem_range.1 hi.2.1
    have ht := (hin.2.2 i (by omega)).2
    have htm := hb.time hM hM2 hL hh.1 ht
    have := hL _ ht
    exact hb.put ht htm.1 (by omega) (by omega)
  · refine ⟨hb.len, fun j hj => ?_⟩
    rcases hb.at_ j hj with h1 | h1
    · exact .inl h1
    · exact .inr ⟨h1.1, by omega⟩
theorem begun_by {p : Pj} {h : Int} {o : List Int} (hf : p.ordFit h o = true) : ∀ k : Nat, k ≤ 8 → Begun p (20 * k + 20) (p.byTo h o k)
  | 0, _ => begun_none p _
  | k+1, hk => by
    have ih := begun_by hf k (by omega)
    have := begun_step hf ih (by omega) (by omega)
    rw [show (20 * ((k+1 : Nat) : Int) + 20) = 20 * (k : Int) + 20 + 20 by omega]
    exact this
theorem by_len (p : Pj) (h : Int) (o : List Int) : ∀ k, (p.byTo h o k).length = p.lo.length
  | 0 => List.length_replicate
  | k+1 => by
    have ih := by_len p h o k
    unfold Pj.byTo Pj.step
    split
    · rw [List.length_set]; exact ih
    · exact ih
theorem beginsBy_len (p : Pj) (h : Int) (o : List Int) : (p.beginsBy h o).length ≤ p.lo.length := by
  unfold Pj.beginsBy
  split
  · rw [by_len]; omega
  · simp
theorem beginsBy_len6 (p : Pj) (h : Int) (o : List Int) : (p.beginsBy h o).length ≤ 6 := by
  unfold Pj.beginsBy
  split
  · rename_i hf
    rw [by_len]; exact (ok_upto (ordFit_in hf).1).1
  · simp
/-! as time goes on -/
def Pj.past (p : Pj) (l : List Int) (t : Nat) (T : Int) : Bool := (List.range t).all (fun k => !(bit (p.A t) k) || (decide (lF l k ≠ -1) && decide (lF l k + p.L k ≤ T)))
theorem past_iff {p : Pj} {l : List Int} {t : Nat} {T : Int} : p.past l t T = true ↔ ∀ k, k < t → bit (p.A t) k = true → lF l k ≠ -1 ∧ lF l k + p.L k ≤ T := by
  simp only [Pj.past, List.all_eq_true, List.mem_range, Bool.or_eq_true, Bool.not_eq_true', Bool.and_eq_true, decide_eq_true_eq]
  constructor
  · intro h k hk hb
    rcases h k hk with h1 | h1
    · rw [h1] at hb; cases hb
    · exact h1
  · intro h k hk
    cases hb : bit (p.A t) k
    · exact .inl rfl
    · exact .inr (h k hk hb)
/-- a task begins at time T -/
def Pj.gmay (p : Pj) (l : List Int) (h : Int) (t : Nat) (T : Int) : Bool := decide (lF l t = -1) && (p.past l t T && decide (busyTo (lF l) p.L T p.lo.length < h))
def Pj.gIn (p : Pj) (h : Int) (o : List Int) (T : Int) (l : List Int) : Nat → List Int
  | 0 => l
  | k+1 => if p.gmay (p.gIn h o T l k) h (oN o k) T then (p.gIn h o T l k).set (oN o k) T else p.gIn h o T l k
def Pj.gTo (p : Pj) (h : Int) (o : List Int) : Nat → List Int
  | 0 => List.replicate p.lo.length (-1)
  | T+1 => p.gIn h o T (p.gTo h o T) o.length
def Pj.greedyBy (p : Pj) (h : Int) (o : List Int) : List Int := if p.ordFit h o then p.gTo h o 121 else []
theorem gIn_len (p : Pj) (h : Int) (o : List Int) (T : Int) (l : List Int) : ∀ k, (p.gIn h o T l k).length = l.length
  | 0 => rfl
  | k+1 => by
    unfold Pj.gIn
    split
    · rw [List.length_set]; exact gIn_len p h o T l k
    · exact gIn_len p h o T l k
theorem gTo_len (p : Pj) (h : Int) (o : List Int) : ∀ T, (p.gTo h o T).length = p.lo.length
  | 0 => List.length_replicate
  | T+1 => by unfold Pj.gTo; rw [gIn_len]; exact gTo_len p h o T
theorem greedy_len6 (p : Pj) (h : Int) (o : List Int) : (p.greedyBy h o).length ≤ 6 := by
  unfold Pj.greedyBy
  split
  · rename_i hf
    rw [gTo_len]; exact (ok_upto (ordFit_in hf).1).1
  · simp
/-- the begins lie from 0 up to T -/
def UpTo (p : Pj) (T : Int) (l : List Int) : Prop := l.length = p.lo.length ∧ ∀ j, j < p.lo.length → lF l j = -1 ∨ (0 ≤ lF l j ∧ lF l j ≤ T)
theorem UpTo.put {p : Pj} {T : Int} {l : List Int} (hu : UpTo p T l) (h0 : 0 ≤ T) {t : Nat} (ht : t < p.lo.length) : UpTo p T (l.set t T) := by
  refine ⟨by rw [List.length_set]; exact hu.1, fun j hj => ?_⟩
  rw [lF_set (by rw [hu.1]; exact ht)]
  split
  · exact .inr ⟨h0, Int.le_refl _⟩
  · exact hu.2 j hj
theorem UpTo.round {p : Pj} {h : Int} {o : List Int} {T : Int} {l : List Int} (ho : orderOk o p.lo.length = true) (hu : UpTo p T l) (h0 : 0 ≤ T) : ∀ k, k ≤ o.length → UpTo p T (p.gIn h o T l k)
  | 0, _ => hu
  | k+1, hk => by
    have ih := UpTo.round (h := h) ho hu h0 k (by omega)
    have hin := order_in ho
    unfold Pj.gIn
    split
    · exact ih.put h0 (hin.2.2 k (by omega)).2
    · exact ih
theorem gTo_up {p : Pj} {h : Int} {o : List Int} (ho : orderOk o p.lo.length = true) : ∀ T : Nat, UpTo p T (p.gTo h o T)
  | 0 => ⟨List.length_replicate, fun j hj => .inl (none_at _ _ hj)⟩
  | T+1 => by
    have := (gTo_up (h := h) ho T).round (h := h) ho (by omega) o.length (Nat.le_refl _)
    refine ⟨this.1, fun j hj => ?_⟩
    rcases this.2 j hj with h1 | h1
    · exact .inl h1
    · exact .inr ⟨h1.1, Int.le_trans h1.2 (by omega)⟩
/-- the lengths of those begun -/
def sumB (p : Pj) (l : List Int) : Nat → Int
  | 0 => 0
  | k+1 => sumB p l k + (if lF l k = -1 then 0 else p.L k)
theorem sumB_le {p : Pj} {l : List Int} : ∀ k, (∀ j, j < k → 1 ≤ p.L j ∧ p.L j ≤ 20) → sumB p l k ≤ 20 * k ∧ ((∃ j, j < k ∧ lF l j = -1) → sumB p l k + 20 ≤ 20 * k)
  | 0, _ => ⟨by unfold sumB; omega, fun ⟨j, hj, _⟩ => by omega⟩
  | k+1, hL => by
    have ih := sumB_le (l := l) k (fun j hj => hL j (by omega))
    have := hL k (by omega)
    unfold sumB
    by_cases hk : lF l k = -1
    · rw [if_pos hk]; exact ⟨by omega, fun _ => by omega⟩
    · rw [if_neg hk]
      refine ⟨by omega, fun ⟨j, hj, hm⟩ => ?_⟩
      have : j ≠ k := fun e => hk (e ▸ hm)
      have := ih.2 ⟨j, by omega, hm⟩
      omega
theorem sumB_congr {p : Pj} {l l' : List Int} : ∀ k, (∀ j, j < k → lF l j = lF l' j) → sumB p l k = sumB p l' k
  | 0, _ => rfl
  | k+1, h => by unfold sumB; rw [sumB_congr k (fun j hj => h j (by omega)), h k (by omega)]
theorem sumB_set {p : Pj} {l : List Int} {t : Nat} {x : Int} (ht : t < l.length) (hm : lF l t = -1) (hx : x ≠ -1) : ∀ k, t < k → sumB p (l.set t x) k = sumB p l k + p.L t
  | 0, h => by omega
  | k+1, h => by
    unfold sumB
    by_cases e : t = k
    · subst e
      rw [lF_set ht, if_pos rfl, if_neg hx, if_pos hm, sumB_congr (l := l.set t x) (l' := l) t (fun j hj => by rw [lF_set ht, if_neg (by omega)])]
      omega
    · have hk : lF (l.set t x) k = lF l k := by rw [lF_set ht, if_neg (fun e2 => e e2.symm)]
      rw [sumB_set ht hm hx k (by omega), hk]
      generalize (if lF l k = -1 then 0 else p.L k) = z
      omega
structure GInv (p : Pj) (T : Int) (l : List Int) : Prop where
  len : l.length = p.lo.length
  at_ : ∀ j, j < p.lo.length → lF l j = -1 ∨ (0 ≤ lF l j ∧ lF l j + p.L j ≤ sumB p l p.lo.length)
  up : T ≤ sumB p l p.lo.length
theorem gmay_in {p : Pj} {l : List Int} {h : Int} {t : Nat} {T : Int} (hg : p.gmay l h t T = true) : lF l t = -1 ∧ p.past l t T = true ∧ busyTo (lF l) p.L T p.lo.length < h := by
  simp only [Pj.gmay, Bool.and_eq_true, decide_eq_true_eq] at hg
  exact hg
theorem GInv.round {p : Pj} {h : Int} {o : List Int} {T : Int} {l : List Int} (hL : ∀ k, k < p.lo.length → 1 ≤ p.L k ∧ p.L k ≤ 20) (ho : orderOk o p.lo.length = true) (h0 : 0 ≤ T) (hi : GInv p T l) : ∀ k, k ≤ o.length → GInv p T (p.gIn h o T l k)
  | 0, _ => hi
  | k+1, hk => by
    have ih := GInv.round (h := h) hL ho h0 hi k (by omega)
    have hin := order_in ho
    unfold Pj.gIn
    split
    · rename_i hg
      have ht := (hin.2.2 k (by omega)).2
      have hm := (gmay_in hg).1
      have hlt : oN o k < (p.gIn h o T l k).length := by rw [ih.len]; exact ht
      have hs := sumB_set (p := p) (x := T) hlt hm (by omega) p.lo.length ht
      have hl := hL _ ht
      have hup := ih.up
      refine ⟨by rw [List.length_set]; exact ih.len, fun j hj => ?_, by omega⟩
      rw [lF_set hlt]
      by_cases e : j = oN o k
      · subst e; rw [if_pos rfl]; exact .inr ⟨h0, by omega⟩
      · rw [if_neg e]
        rcases ih.at_ j hj with h1 | h1
        · exact .inl h1
        · exact .inr ⟨h1.1, by omega⟩
    · exact ih
/-- what has begun stays -/
theorem gIn_keep {p : Pj} {h : Int} {o : List Int} {T : Int} {l : List Int} (hn : o.length = p.lo.length) (hin : ∀ i, i < p.lo.length → oN o i < p.lo.length) (hl : l.length = p.lo.length) {j : Nat} : ∀ (d k : Nat), k + d ≤ o.length → lF (p.gIn h o T l k) j ≠ -1 → lF (p.gIn h o T l (k + d)) j = lF (p.gIn h o T l k) j
  | 0, _, _, _ => rfl
  | d+1, k, hk, hne => by
    have ih := gIn_keep (h := h) (T := T) (l := l) (j := j) hn hin hl d k (by omega) hne
    show lF (if p.gmay (p.gIn h o T l (k + d)) h (oN o (k + d)) T then (p.gIn h o T l (k + d)).set (oN o (k + d)) T else p.gIn h o T l (k + d)) j = _
    split
    · rename_i hg
      have := (gmay_in hg).1
      have hlt : oN o (k + d) < (p.gIn h o T l (k + d)).length := by rw [gIn_len, hl]; exact hin _ (by omega)
      rw [lF_set hlt, if_neg (fun e => by subst e; rw [ih] at this; exact hne this), ih]
    · exact ih
theorem idle_at {p : Pj} {l : List Int} {T : Int} : ∀ k, (∀ j, j < k → lF l j = -1 ∨ lF l j + p.L j ≤ T) → busyTo (lF l) p.L T k = 0
  | 0, _ => rfl
  | k+1, hx => by
    have := hx k (by omega)
    unfold busyTo
    rw [if_neg (by omega), idle_at k (fun j hj => hx j (by omega))]
theorem least_of {P : Nat → Prop} [DecidablePred P] : ∀ n, P n → ∃ k, k ≤ n ∧ P k ∧ ∀ j, j < k → ¬ P j := by
  intro n
  induction n using Nat.strongRecOn with
  | _ n ih =>
    intro hn
    by_cases h : ∃ j, j < n ∧ P j
    · obtain ⟨j, hj, hp⟩ := h
      obtain ⟨k, h1, h2, h3⟩ := ih j hj hp
      exact ⟨k, by omega, h2, h3⟩
    · exact ⟨n, Nat.le_refl _, hn, fun j hj hp => h ⟨j, hj, hp⟩⟩
/-- as long as a task has not begun, one is being done -/
theorem busy_some {p : Pj} {h : Int} {o : List Int} {T : Int} {l : List Int} (hf : p.ordFit h o = true) (h0 : 0 ≤ T) (hl : l.length = p.lo.length) {m : Nat} (hm : m < p.lo.length) (hmiss : lF (p.gIn h o T l o.length) m = -1) :
    ∃ j, j < p.lo.length ∧ lF (p.gIn h o T l o.length) j ≠ -1 ∧ T < lF (p.gIn h o T l o.length) j + p.L j := by
  obtain ⟨hok, hh, ho⟩ := ordFit_in hf
  have hL := (ok_upto hok).2.2.1
  have hin := order_in ho
  by_cases hex : ∃ j, j < p.lo.length ∧ lF (p.gIn h o T l o.length) j ≠ -1 ∧ T < lF (p.gIn h o T l o.length) j + p.L j
  · exact hex
  exfalso
  have hall : ∀ j, j < p.lo.length → lF (p.gIn h o T l o.length) j = -1 ∨ lF (p.gIn h o T l o.length) j + p.L j ≤ T := by
    intro j hj
    by_cases h1 : lF (p.gIn h o T l o.length) j = -1
    · exact .inl h1
    · refine .inr ?_
      by_cases h2 : T < lF (p.gIn h o T l o.length) j + p.L j
      · exact absurd ⟨j, hj, h1, h2⟩ hex
      · omega
  have hng : ∀ i, i < o.length → p.gmay (p.gIn h o T l i) h (oN o i) T = false := by
    intro i hi
    cases hg : p.gmay (p.gIn h o T l i) h (oN o i) T
    · rfl
    · exfalso
      have ht := (hin.2.2 i (by omega)).2
      have hlt : oN o i < (p.gIn h o T l i).length := by rw [gIn_len, hl]; exact ht
      have e1 : lF (p.gIn h o T l (i+1)) (oN o i) = T := by
        show lF (if p.gmay (p.gIn h o T l i) h (oN o i) T then (p.gIn h o T l i).set (oN o i) T else p.gIn h o T l i) (oN o i) = T
        rw [if_pos hg, lF_set hlt, if_pos rfl]
      have e2 := gIn_keep (h := h) (T := T) (l := l) (j := oN o i) hin.2.1 (fun k hk => (hin.2.2 k hk).2) hl (o.length - (i+1)) (i+1) (by omega) (by rw [e1]; omega)
      rw [show i + 1 + (o.length - (i+1)) = o.length by omega, e1] at e2
      have := hall _ ht
      have := hL _ ht
      rw [e2] at *
      omega
  have hsame : ∀ i, i ≤ o.length → p.gIn h o T l i = l := by
    intro i
    induction i with
    | zero => intro _; rfl
    | succ i ih =>
      intro hi
      have e := ih (by omega)
      show (if p.gmay (p.gIn h o T l i) h (oN o i) T then (p.gIn h o T l i).set (oN o i) T else p.gIn h o T l i) = l
      rw [if_neg (by rw [hng i (by omega)]; simp), e]
  rw [hsame _ (Nat.le_refl _)] at hall hmiss
  obtain ⟨k, hk1, hk2, hk3⟩ := least_of (P := fun k => lF l k = -1) m hmiss
  obtain ⟨i, hi1, hi2⟩ := order_onto ho k (by omega)
  have hgi := hng i (by omega)
  rw [hsame i (by omega), hi2] at hgi
  have : p.gmay l h k T = true := by
    simp only [Pj.gmay, Bool.and_eq_true, decide_eq_true_eq]
    refine ⟨hk2, past_iff.2 fun j hj hb => ?_, by rw [idle_at _ hall]; omega⟩
    have h1 := hk3 j hj
    rcases hall j (by omega) with h2 | h2
    · exact absurd h2 h1
    · exact ⟨h1, h2⟩
  rw [this] at hgi
  cases hgi
theorem gInv_at {p : Pj} {h : Int} {o : List Int} (hf : p.ordFit h o = true) : ∀ T : Nat, (∃ m, m < p.lo.length ∧ lF (p.gTo h o T) m = -1) → GInv p T (p.gTo h o T)
  | 0, _ => by
    have hs : ∀ k, k ≤ p.lo.length → sumB p (p.gTo h o 0) k = 0 := by
      intro k
      induction k with
      | zero => intro _; rfl
      | succ k ih =>
        intro hk
        unfold sumB
        have e : lF (p.gTo h o 0) k = -1 := none_at _ _ (by omega)
        rw [ih (by omega), if_pos e]; rfl
    refine ⟨gTo_len p h o 0, fun j hj => .inl (none_at _ _ hj), ?_⟩
    rw [hs _ (Nat.le_refl _)]; exact Int.le_refl _
  | T+1, ⟨m, hm, hmiss⟩ => by
    obtain ⟨hok, hh, ho⟩ := ordFit_in hf
    have hL := (ok_upto hok).2.2.1
    have hin := order_in ho
    have hl := gTo_len p h o T
    have hm0 : lF (p.gTo h o T) m = -1 := by
      by_cases h1 : lF (p.gTo h o T) m = -1
      · exact h1
      · have e2 := gIn_keep (h := h) (T := T) (l := p.gTo h o T) (j := m) hin.2.1 (fun k hk => (hin.2.2 k hk).2) hl o.length 0 (by omega) h1
        rw [Nat.zero_add] at e2
        have : lF (p.gIn h o T (p.gTo h o T) o.length) m = -1 := hmiss
        rw [this] at e2
        exact e2.symm
    have ih := gInv_at hf T ⟨m, hm, hm0⟩
    have hr := ih.round (h := h) hL ho (by omega) o.length (Nat.le_refl _)
    obtain ⟨j, hj, hj1, hj2⟩ := busy_some hf (T := T) (by omega) hl hm hmiss
    show GInv p ((T + 1 : Nat) : Int) (p.gIn h o T (p.gTo h o T) o.length)
    refine ⟨hr.len, hr.at_, ?_⟩
    rcases hr.at_ j hj with h1 | h1
    · exact absurd h1 hj1
    · omega
/-- all have begun in time -/
theorem greedy_bound {p : Pj} {h : Int} {o : List Int} (hf : p.ordFit h o = true) {T : Nat} (hm : ∃ m, m < p.lo.length ∧ lF (p.gTo h o T) m = -1) : T ≤ 119 := by
  obtain ⟨hok, hh, ho⟩ := ordFit_in hf
  have hL := (ok_upto hok).2.2.1
  have h6 := (ok_upto hok).1
  have hi := (gInv_at hf T hm).up
  have := (sumB_le (p := p) (l := p.gTo h o T) p.lo.length hL).2 hm
  omega
theorem gIn_full {p : Pj} {h : Int} {o : List Int} {T : Int} {l : List Int} (hin : ∀ i, i < o.length → oN o i < p.lo.length) (hall : ∀ j, j < p.lo.length → lF l j ≠ -1) : ∀ k, k ≤ o.length → p.gIn h o T l k = l
  | 0, _ => rfl
  | k+1, hk => by
    have ih := gIn_full (h := h) (T := T) hin hall k (by omega)
    unfold Pj.gIn
    rw [ih, if_neg]
    intro hg
    exact hall _ (hin k (by omega)) (gmay_in hg).1
theorem greedy_full {p : Pj} {h : Int} {o : List Int} (hf : p.ordFit h o = true) {T : Nat} (hall : ∀ j, j < p.lo.length → lF (p.gTo h o T) j ≠ -1) : ∀ d, p.gTo h o (T + d) = p.gTo h o T
  | 0 => rfl
  | d+1 => by
    have ih := greedy_full hf hall d
    have hin := order_in (ordFit_in hf).2.2
    show p.gIn h o ((T + d : Nat) : Int) (p.gTo h o (T + d)) o.length = _
    rw [ih]
    exact gIn_full (fun i hi => (hin.2.2 i (by omega)).2) hall _ (Nat.le_refl _)
theorem greedy_end {p : Pj} {h : Int} {o : List Int} (hf : p.ordFit h o = true) {T : Nat} (hT : T ≤ 121) (hall : ∀ j, j < p.lo.length → lF (p.gTo h o T) j ≠ -1) : p.greedyBy h o = p.gTo h o T := by
  unfold Pj.greedyBy
  rw [if_pos hf]
  have := greedy_full hf hall (121 - T)
  rw [show T + (121 - T) = 121 by omega] at this
  exact this
end Go.Proofs.Ytdfcjhcnojgkiaa
