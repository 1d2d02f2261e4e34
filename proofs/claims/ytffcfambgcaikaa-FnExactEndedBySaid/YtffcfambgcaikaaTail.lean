/- A region that draws its order and whose last operation waits for all others: the others in whatever order, then the last. No condition on the program. -/
import Derived.Test.YtffcfambgcaikaaBase
namespace Go.Proofs.Ytffcfambgcaikaa
open Go.RowKit
set_option linter.unusedVariables false
set_option linter.unusedSimpArgs false
/-! ### a region that draws, its last operation behind all others -/
def tailOk (ops : Array Oper) (n : Nat) : Bool :=
  ops.size == n + 1 &&
  (List.range n).all (fun i => match ops[i]? with
    | some o => o.after.all (fun e => decide (e.on < i)) && (match o.guard with | some (j, _) => decide (j < n) | none => true)
    | none => false) &&
  (match ops[n]? with
    | some o => o.after.all (fun e => decide (e.on < n)) && (List.range n).all fun i => o.after.any fun e => e.on == i && Region.binds .any e
    | none => false)
def tailQ (P : Program) (ops : Array Oper) (Q : Exit → Act → World → Prop) (n : Nat) : Exit → Act → World → Prop
  | .normal, a, w => wpOp P ops Q n (Q .normal) a w
  | e, a, w => Q e a w
section
variable {P : Program} {ops : Array Oper} {Q : Exit → Act → World → Prop} {n : Nat}
theorem tail_size (h : tailOk ops n = true) : ops.size = n + 1 := by
  simp [tailOk] at h; exact h.1.1
theorem tail_pop (h : tailOk ops n = true) {i : Nat} (hi : i < n) : ops.pop[i]? = ops[i]? := by
  have := tail_size h
  rw [Array.getElem?_pop]; simp; omega
theorem tail_low (h : tailOk ops n = true) {i : Nat} (hi : i < n) : ∃ o, ops[i]? = some o ∧ (∀ e ∈ o.after, e.on < i) ∧ ∀ j b, o.guard = some (j, b) → j < n := by
  simp only [tailOk, Bool.and_eq_true, List.all_eq_true, List.mem_range] at h
  have := h.1.2 i hi
  cases ho : ops[i]? with
  | none => simp [ho] at this
  | some o =>
    simp only [ho, Bool.and_eq_true, Array.all_eq_true'] at this
    refine ⟨o, rfl, fun e he => by simpa using this.1 e he, fun j b hg => ?_⟩
    have := this.2
    simp only [hg] at this
    simpa using this
theorem tail_last (h : tailOk ops n = true) : ∃ o, ops[n]? = some o ∧ (∀ e ∈ o.after, e.on < n) ∧ ∀ i, i < n → ∃ e ∈ o.after, e.on = i ∧ Region.binds .any e = true := by
  simp only [tailOk, Bool.and_eq_true] at h
  have := h.2
  cases ho : ops[n]? with
  | none => simp [ho] at this
  | some o =>
    simp only [ho, List.all_eq_true, List.mem_range, Array.all_eq_true', Array.any_eq_true', Bool.and_eq_true, beq_iff_eq, decide_eq_true_eq] at this
    exact ⟨o, rfl, this.1, fun i hi => by obtain ⟨e, he, h1, h2⟩ := this.2 i hi; exact ⟨e, he, h1, h2⟩⟩
theorem tail_upon {o : Oper} {a : Act} {K K' : Act → World → Prop} (hK : ∀ a w, K a w → K' a w) (r : Result Next) (h : o.upon P a K (tailQ P ops Q n) r) : o.upon P a K' Q r := by
  cases r with
  | ok x w =>
    cases x <;> simp only [Oper.upon] at h ⊢ <;> first
      | exact hK _ _ h
      | exact h.mono fun v w' hh => hK _ _ hh
      | (refine h.mono fun e w' hh => ?_
         cases e with
         | returned v => exact hK _ _ hh
         | panicked c => exact hh
         | outgrown => exact hh)
  | halt x w => cases x <;> simp only [Oper.upon] at h ⊢ <;> exact h
theorem tail_wpOp (h : tailOk ops n = true) {i : Nat} (hi : i < n) {K K' : Act → World → Prop} {a : Act} {w : World} (hK : ∀ a w, K a w → K' a w)
    (hp : wpOp P ops.pop (tailQ P ops Q n) i K a w) : wpOp P ops Q i K' a w := by
  obtain ⟨o, ho, _, hg⟩ := tail_low h hi
  have hpop := tail_pop h hi
  have hw : Region.wanted o (yielded ops.pop a.tmps) = Region.wanted o (yielded ops a.tmps) := by
    unfold Region.wanted
    cases hgd : o.guard with
    | none => rfl
    | some x =>
      obtain ⟨j, b⟩ := x
      have : yielded ops.pop a.tmps j = yielded ops a.tmps j := by
        unfold yielded
        rw [tail_pop h (hg j b hgd)]
      simp only [this]
  unfold wpOp at *
  rw [hpop, ho] at hp
  rw [ho]
  simp only [hw] at hp ⊢
  split
  · rename_i hwt
    rw [if_pos hwt] at hp
    rcases hp with hp | ⟨hp, a', w', hl⟩
    · left
      unfold Oper.wp at *
      exact tail_upon hK _ hp
    · exact .inr ⟨hp, a', w', hl⟩
  · rename_i hwt
    rw [if_neg hwt] at hp
    exact hK _ _ hp
theorem tail_get {listed : Array Bool} (hl : listed.size = n) {i : Nat} (hi : i < n) (d : Bool) : (listed.push false).getD i d = listed.getD i d := by
  simp [Array.getElem?_push, hl]; rw [if_neg (by omega)]
theorem tail_ready (h : tailOk ops n = true) {listed : Array Bool} (hl : listed.size = n) {i : Nat} (hi : i < n) :
    i ∈ Region.ready .any ops (listed.push false) ↔ i ∈ Region.ready .any ops.pop listed := by
  obtain ⟨o, ho, he, _⟩ := tail_low h hi
  rw [mem_ready, mem_ready, tail_pop h hi, ho, tail_get hl hi]
  constructor
  · rintro ⟨h1, o', ho', h2⟩
    cases ho'
    exact ⟨h1, o, rfl, fun e hm hb => by rw [← tail_get hl (by have := he e hm; omega)]; exact h2 e hm hb⟩
  · rintro ⟨h1, o', ho', h2⟩
    cases ho'
    exact ⟨h1, o, rfl, fun e hm hb => by rw [tail_get hl (by have := he e hm; omega)]; exact h2 e hm hb⟩
theorem tail_all (h : tailOk ops n = true) {listed : Array Bool} (hl : listed.size = n) (hr : Region.ready .any ops.pop listed = []) : ∀ i, i < n → listed.getD i true = true := by
  intro i
  induction i using Nat.strongRecOn with
  | _ i ih =>
    intro hi
    obtain ⟨o, ho, he, _⟩ := tail_low h hi
    cases hb : listed.getD i true with
    | true => rfl
    | false =>
      have : i ∈ Region.ready .any ops.pop listed := by
        rw [mem_ready, tail_pop h hi]
        refine ⟨hb, o, ho, fun e hm _ => ?_⟩
        have h1 := he e hm
        have h2 := ih e.on h1 (by omega)
        have h3 : e.on < listed.size := by omega
        simp [h3] at h2 ⊢
        exact h2
      rw [hr] at this
      cases this
theorem tail_any (h : tailOk ops n = true) : ∀ (fuel : Nat) (listed : Array Bool) (a : Act) (w : World), listed.size = n →
    wpAny P .any ops.pop (tailQ P ops Q n) fuel listed a w → wpAny P .any ops Q (fuel + 1) (listed.push false) a w := by
  obtain ⟨o, ho, hlow, hlast⟩ := tail_last h
  have hsz := tail_size h
  -- when all others are listed
  have fin : ∀ (fuel : Nat) (listed : Array Bool) (a : Act) (w : World), listed.size = n → Region.ready .any ops.pop listed = [] → wpOp P ops Q n (Q .normal) a w → wpAny P .any ops Q (fuel + 1) (listed.push false) a w := by
    intro fuel listed a w hl hr hq
    have hall := tail_all h hl hr
    have hn : n ∈ Region.ready .any ops (listed.push false) := by
      rw [mem_ready]
      refine ⟨by simp [← hl], o, ho, fun e he hb => ?_⟩
      have h1 := hlow e he
      have h2 := hall e.on h1
      have h3 : e.on < listed.size := by omega
      rw [tail_get hl h1]
      simp [h3] at h2 ⊢
      exact h2
    refine ⟨fun h0 => (by rw [h0] at hn; cases hn), fun i hi => ?_⟩
    by_cases hin : i < n
    · rw [tail_ready h hl hin, hr] at hi
      cases hi
    · obtain ⟨o', ho', _⟩ := (mem_ready.1 hi).2
      obtain ⟨h1, _⟩ := Array.getElem?_eq_some_iff.1 ho'
      obtain rfl : i = n := by omega
      refine wpOp_mono (fun a w hh => wpAny_done ?_ hh _) hq
      cases hrd : Region.ready .any ops ((listed.push false).setIfInBounds i true) with
      | nil => rfl
      | cons j js =>
        have hj : j ∈ Region.ready .any ops ((listed.push false).setIfInBounds i true) := by rw [hrd]; exact List.mem_cons_self
        obtain ⟨g1, o2, g2, _⟩ := mem_ready.1 hj
        obtain ⟨g3, _⟩ := Array.getElem?_eq_some_iff.1 g2
        by_cases hji : j = i
        · subst hji
          simp [← hl] at g1
        · rw [getD_set_ne true (Ne.symm hji), tail_get hl (by omega), hall j (by omega)] at g1
          cases g1
  intro fuel
  induction fuel with
  | zero =>
    intro listed a w hl hw
    exact fin 0 listed a w hl hw.1 hw.2
  | succ fuel ih =>
    intro listed a w hl hw
    by_cases hr : Region.ready .any ops.pop listed = []
    · exact fin _ listed a w hl hr (hw.1 hr)
    · refine ⟨fun h0 => ?_, fun i hi => ?_⟩
      · obtain ⟨i, hi⟩ := List.exists_mem_of_ne_nil _ hr
        have hin : i < n := by
          have := (mem_ready.1 hi).2
          obtain ⟨o', ho', _⟩ := this
          have := Array.getElem?_eq_some_iff.1 ho'
          obtain ⟨h1, _⟩ := this
          simp at h1; omega
        rw [← tail_ready h hl hin, h0] at hi
        cases hi
      · have hin : i < n := by
          obtain ⟨g1, o', ho', g2⟩ := mem_ready.1 hi
          obtain ⟨h1, _⟩ := Array.getElem?_eq_some_iff.1 ho'
          by_cases hne : i = n
          · subst hne
            rw [ho] at ho'
            cases ho'
            exfalso
            apply hr
            cases hrd : Region.ready .any ops.pop listed with
            | nil => rfl
            | cons j js =>
              have hj : j ∈ Region.ready .any ops.pop listed := by rw [hrd]; exact List.mem_cons_self
              obtain ⟨g3, o2, g4, _⟩ := mem_ready.1 hj
              obtain ⟨g5, _⟩ := Array.getElem?_eq_some_iff.1 g4
              have hjn : j < i := by simp at g5; omega
              obtain ⟨e, he, rfl, hb⟩ := hlast j hjn
              have := g2 e he hb
              rw [tail_get hl hjn] at this
              have h3 : e.on < listed.size := by omega
              simp [h3] at this g3
              rw [this] at g3
              cases g3
          · omega
        have := hw.2 i ((tail_ready h hl hin).1 hi)
        refine tail_wpOp h hin (fun a w hh => ?_) this
        have := ih (listed.setIfInBounds i true) a w (by simpa using hl) hh
        rw [show (listed.push false).setIfInBounds i true = (listed.setIfInBounds i true).push false from ?_]
        · exact this
        · apply Array.ext_getElem?
          intro k
          simp only [Array.getElem?_push, Array.getElem?_setIfInBounds, Array.size_push, Array.size_setIfInBounds, hl]
          by_cases h1 : k = n
          · subst h1
            rw [if_neg (by omega)]
            simp
          · by_cases h2 : i = k
            · subst h2
              simp [h1, hin, Nat.lt_succ_of_lt hin]
            · simp [h1, h2]
theorem tail_step {o : Oper} {a : Act} {w : World} (ho : ops[n]? = some o) (h : ∀ K' : Act → World → Prop, (∀ a w, Q .normal a w → K' a w) → if Region.wanted o (yielded ops a.tmps) = true then Oper.wp P o a w K' Q else K' (a.put o.dst undef) w) : tailQ P ops Q n .normal a w := wpOp_step ho h
/-- A region that draws, whose last operation waits for all others: the others in whatever order, S shown behind each; then the last. -/
theorem wp_region_tail {id : Nat} {a : Act} {w : World} (n : Nat) (hm : P.follows .mixedOrders = true) (h : tailOk ops n = true) (S : World → Prop) (hS : S w.drew)
    (hw : S w.drew → wpAnyH P .any ops.pop (tailQ P ops Q n) S n (Array.replicate n false) a w.drew) : (Code.region id ops true).wp P Q a w := by
  refine wp_region_any hm ?_
  have := tail_any (Q := Q) (P := P) h n (Array.replicate n false) a w.drew (by simp) (wpAny_of_held _ _ _ _ (hw hS))
  rw [tail_size h, show Array.replicate (n + 1) false = (Array.replicate n false).push false from by simp [Array.replicate_succ]]
  exact this
end
end Go.Proofs.Ytffcfambgcaikaa
