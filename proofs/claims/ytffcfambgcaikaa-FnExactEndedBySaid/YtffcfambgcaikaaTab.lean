/- Tables of numbers in memory: a row of rows, each in a block of its own. Plain facts: what a cell reads as, what stays as it was, a store. No condition. -/
import Derived.Test.YtffcfambgcaikaaTabMath
import Derived.Test.YtffcfambgcaikaaApp
import Derived.Test.YtffcfambgcaikaaTaskMath
namespace Go.Proofs.Ytffcfambgcaikaa
open Go.RowKit
set_option linter.unusedVariables false
set_option linter.unusedSimpArgs false
/-- the heads of the first k rows; the others have none -/
def headsTo (b : Nat → Nat) (n k : Nat) : List Value := (List.range n).map fun i => if i < k then .slice (some ⟨b i, 0, none⟩) n n else .slice none 0 0
theorem headsTo_length (b : Nat → Nat) (n k : Nat) : (headsTo b n k).length = n := by simp [headsTo]
theorem headsTo_at (b : Nat → Nat) (n k i : Nat) (h : i < n) : (headsTo b n k)[i]? = some (if i < k then .slice (some ⟨b i, 0, none⟩) n n else .slice none 0 0) := by simp [headsTo, h]
theorem headsTo_next (b : Nat → Nat) (n k B : Nat) (h : k < n) : (headsTo b n k).set k (.slice (some ⟨B, 0, none⟩) n n) = headsTo (fun i => if i = k then B else b i) n (k+1) := by
  apply List.ext_getElem?
  intro i
  by_cases hi : i < n
  · by_cases hik : i = k
    · subst hik
      rw [List.getElem?_set_self (by rw [headsTo_length]; exact hi), headsTo_at _ _ _ _ hi, if_pos (Nat.lt_succ_self _), if_pos rfl]
    · rw [List.getElem?_set_ne (Ne.symm hik), headsTo_at _ _ _ _ hi, headsTo_at _ _ _ _ hi, if_neg hik]
      by_cases h2 : i < k
      · rw [if_pos h2, if_pos (by omega)]
      · rw [if_neg h2, if_neg (by omega)]
  · rw [List.getElem?_eq_none (by rw [List.length_set, headsTo_length]; omega), List.getElem?_eq_none (by rw [headsTo_length]; omega)]
/-- a table of which the first k rows are there -/
structure TabP (w : World) (O n k : Nat) (b : Nat → Nat) (T : Tbl) : Prop where
  o : w.ownsRow O 41 1 (.slice (some ⟨O, 0, none⟩) n n) n (headsTo b n k)
  r : ∀ i, i < k → Ints w O (.slice (some ⟨b i, 0, none⟩) n n) (rowOf n (T i))
  lt : ∀ i, i < k → O < b i
  ne : ∀ i j, i < k → j < k → i ≠ j → b i ≠ b j
  kn : k ≤ n
theorem TabP.olt {w : World} {O n k : Nat} {b : Nat → Nat} {T : Tbl} (h : TabP w O n k b T) : O < w.heap.size := (own_lt h.o O rfl).2
theorem TabP.blt {w : World} {O n k : Nat} {b : Nat → Nat} {T : Tbl} (h : TabP w O n k b T) {i : Nat} (hi : i < k) : b i < w.heap.size := ((h.r i hi).lt (b i) rfl).2
theorem TabP.head {w : World} {O n k : Nat} {b : Nat → Nat} {T : Tbl} (h : TabP w O n k b T) {i : Nat} (hi : i < k) : w.cell? ⟨O, i, none⟩ = some (.slice (some ⟨b i, 0, none⟩) n n) := by
  have := h.kn
  obtain ⟨a, cap, he, -, -, h3⟩ := own_open h.o
  cases he
  obtain ⟨g, he, -, -, -, h7⟩ := h3 i (by omega)
  cases he
  rw [h7 i (by omega), headsTo_at _ _ _ _ (by omega), if_pos hi]
theorem TabP.nohead {w : World} {O n k : Nat} {b : Nat → Nat} {T : Tbl} (h : TabP w O n k b T) (hk : k < n) : w.cell? ⟨O, k, none⟩ = some (.slice none 0 0) := by
  obtain ⟨a, cap, he, -, -, h3⟩ := own_open h.o
  cases he
  obtain ⟨g, he, -, -, -, h7⟩ := h3 k (by omega)
  cases he
  rw [h7 k (by omega), headsTo_at _ _ _ _ (by omega), if_neg (Nat.lt_irrefl _)]
theorem TabP.ofrozen {w : World} {O n k : Nat} {b : Nat → Nat} {T : Tbl} (h : TabP w O n k b T) (hn : 0 < n) (j : Nat) : w.frozen? ⟨O, j, none⟩ = false := by
  obtain ⟨a, cap, he, -, -, h3⟩ := own_open h.o
  cases he
  obtain ⟨g, he, -, -, h6, -⟩ := h3 0 (by omega)
  cases he
  exact h6 j
theorem TabP.cell {w : World} {O n k : Nat} {b : Nat → Nat} {T : Tbl} (h : TabP w O n k b T) {i j : Nat} (hi : i < k) (hj : j < n) : w.cell? ⟨b i, j, none⟩ = some (.int .i64 (T i j)) := by
  obtain ⟨g, he, -, -, -, h4⟩ := (h.r i hi).at_ (j := j) (by rw [rowOf_length]; exact hj)
  cases he
  rw [h4, rowOf_getD _ _ _ hj]
theorem TabP.frozen {w : World} {O n k : Nat} {b : Nat → Nat} {T : Tbl} (h : TabP w O n k b T) {i : Nat} (hi : i < k) (j : Nat) : w.frozen? ⟨b i, j, none⟩ = false := by
  have := h.kn
  obtain ⟨g, he, -, -, h4, -⟩ := (h.r i hi).at_ (j := 0) (by rw [rowOf_length]; omega)
  cases he
  exact h4 j
theorem TabP.ext {w w' : World} {O n k : Nat} {b : Nat → Nat} {T : Tbl} (h : TabP w O n k b T) (hb : Below w.heap.size w w') : TabP w' O n k b T :=
  ⟨own_ext h.o hb, fun i hi => (h.r i hi).ext hb, h.lt, h.ne, h.kn⟩
theorem TabP.alloc {w : World} {O n k : Nat} {b : Nat → Nat} {T : Tbl} (h : TabP w O n k b T) (o : Obj) : TabP (w.alloc o) O n k b T := h.ext (ext_alloc (ext_refl _) o)
theorem TabP.drew {w : World} {O n k : Nat} {b : Nat → Nat} {T : Tbl} (h : TabP w O n k b T) : TabP w.drew O n k b T := ⟨h.o, h.r, h.lt, h.ne, h.kn⟩
theorem TabP.low {w : World} {O n k : Nat} {b : Nat → Nat} {T : Tbl} (h : TabP w O n k b T) {p : Addr} (hp : p.block < O) (u : Value) : TabP (w.setCell p u) O n k b T :=
  ⟨own_low h.o hp u, fun i hi => (h.r i hi).low hp u, h.lt, h.ne, h.kn⟩
theorem TabP.high {w : World} {O n k : Nat} {b : Nat → Nat} {T : Tbl} (h : TabP w O n k b T) {p : Addr} (hp : ∀ q, q = O ∨ (∃ i, i < k ∧ q = b i) → p.block ≠ q) (u : Value) : TabP (w.setCell p u) O n k b T := by
  have key : ∀ {e : TypeId} {size : Nat} {v : Value} {m : Nat} {xs : List Value}, w.ownsRow O e size v m xs → (∀ q, v.ownBlock = some q → p.block ≠ q) → (w.setCell p u).ownsRow O e size v m xs := by
    intro e size v m xs ho hne
    obtain ⟨hl, h⟩ := ho
    refine ⟨hl, ?_⟩
    rcases h with ⟨rfl, rfl⟩ | ⟨g, cap, cur, rfl, hg, hh, hn, hc, hs, rfl⟩
    · exact .inl ⟨rfl, rfl⟩
    · exact .inr ⟨g, cap, cur, rfl, hg, (Below.heap_setCell w p u g (fun e => hne g rfl e.symm)).trans hh, hn, hc, hs, rfl⟩
  exact ⟨key h.o fun q hq => hp q (.inl (by cases hq; rfl)), fun i hi => key (h.r i hi) fun q hq => hp q (.inr ⟨i, hi, by cases hq; rfl⟩), h.lt, h.ne, h.kn⟩
theorem TabP.congr {w : World} {O n k : Nat} {b : Nat → Nat} {T T' : Tbl} (h : TabP w O n k b T) (hT : ∀ i j, i < k → j < n → T i j = T' i j) : TabP w O n k b T' :=
  ⟨h.o, fun i hi => by rw [← rowOf_congr n (T i) (T' i) fun j hj => hT i j hi hj]; exact h.r i hi, h.lt, h.ne, h.kn⟩
theorem TabP.set {w : World} {O n k : Nat} {b : Nat → Nat} {T : Tbl} (h : TabP w O n k b T) {i j : Nat} (hi : i < k) (hj : j < n) (x : Int) :
    TabP (w.setCell ⟨b i, j, none⟩ (.int .i64 x)) O n k b (fun a c => if a = i ∧ c = j then x else T a c) := by
  have hO : O ≠ b i := by have := h.lt i hi; omega
  refine ⟨?_, fun m hm => ?_, h.lt, h.ne, h.kn⟩
  · obtain ⟨hl, ho⟩ := h.o
    refine ⟨hl, ?_⟩
    rcases ho with ⟨h1, rfl⟩ | ⟨g, cap, cur, h1, hg, hh, hn, hc, hs, hx⟩
    · exact .inl ⟨h1, rfl⟩
    · obtain rfl : g = O := by cases h1; rfl
      exact .inr ⟨g, cap, cur, h1, hg, (Below.heap_setCell w ⟨b i, j, none⟩ _ g hO).trans hh, hn, hc, hs, hx⟩
  · by_cases hmi : m = i
    · subst hmi
      have := (h.r m hm).set j x
      rw [rowOf_set] at this
      refine cast ?_ this
      congr 1
      refine rowOf_congr _ _ _ fun c hc => ?_
      by_cases hcj : c = j
      · rw [if_pos hcj, if_pos ⟨rfl, hcj⟩]
      · rw [if_neg hcj, if_neg (fun h => hcj h.2)]
    · have e : rowOf n (fun c => if m = i ∧ c = j then x else T m c) = rowOf n (T m) := rowOf_congr _ _ _ fun c hc => if_neg (fun h => hmi h.1)
      show Ints _ _ _ (rowOf n (fun c => if m = i ∧ c = j then x else T m c))
      rw [e]
      have hr := h.r m hm
      have key : ∀ {v : Value} {q : Nat} {xs : List Value}, w.ownsRow O 3 1 v q xs → v.ownBlock = some (b m) → (w.setCell ⟨b i, j, none⟩ (.int .i64 x)).ownsRow O 3 1 v q xs := by
        intro v q xs ho hq
        obtain ⟨hl, ho⟩ := ho
        refine ⟨hl, ?_⟩
        rcases ho with ⟨rfl, rfl⟩ | ⟨g, cap, cur, rfl, hg, hh, hn, hc, hs, rfl⟩
        · exact .inl ⟨rfl, rfl⟩
        · obtain rfl : g = b m := by cases hq; rfl
          exact .inr ⟨b m, cap, cur, rfl, hg, (Below.heap_setCell w ⟨b i, j, none⟩ _ (b m) (h.ne m i hm hi hmi)).trans hh, hn, hc, hs, rfl⟩
      exact key hr rfl
/-- a row more, made and its head written -/
theorem TabP.more {w : World} {O n k : Nat} {b : Nat → Nat} {T : Tbl} (h : TabP w O n k b T) (hk : k < n) {B : Nat} {f : Nat → Int} (hB : Ints w O (.slice (some ⟨B, 0, none⟩) n n) (rowOf n f)) (hOB : O < B) (hne : ∀ i, i < k → b i < B) :
    TabP (w.setCell ⟨O, k, none⟩ (.slice (some ⟨B, 0, none⟩) n n)) O n (k+1) (fun i => if i = k then B else b i) (fun a c => if a = k then f c else T a c) := by
  have far : ∀ {v : Value} {m : Nat} {xs : List Value}, w.ownsRow O 3 1 v m xs → (∀ q, v.ownBlock = some q → O ≠ q) → (w.setCell ⟨O, k, none⟩ (.slice (some ⟨B, 0, none⟩) n n)).ownsRow O 3 1 v m xs := by
    intro v m xs ho hq
    obtain ⟨hl, h⟩ := ho
    refine ⟨hl, ?_⟩
    rcases h with ⟨rfl, rfl⟩ | ⟨g, cap, cur, rfl, hg, hh, hn, hc, hs, rfl⟩
    · exact .inl ⟨rfl, rfl⟩
    · exact .inr ⟨g, cap, cur, rfl, hg, (Below.heap_setCell w ⟨O, k, none⟩ _ g (fun e => hq g rfl e.symm)).trans hh, hn, hc, hs, rfl⟩
  refine ⟨?_, fun i hi => ?_, fun i hi => ?_, fun i j hi hj hij => ?_, by omega⟩
  · rw [← headsTo_next b n k B hk]
    exact (h.o.stored _ _).1
  · by_cases hik : i = k
    · subst hik
      rw [if_pos rfl]
      rw [rowOf_congr n (fun c => if i = i then f c else T i c) f fun j hj => if_pos rfl]
      exact far hB fun q hq => by cases hq; show O ≠ B; omega
    · rw [if_neg hik]
      rw [rowOf_congr n (fun c => if i = k then f c else T i c) (T i) fun j hj => if_neg hik]
      exact far (h.r i (by omega)) fun q hq => by cases hq; have := h.lt i (by omega); show O ≠ b i; omega
  · by_cases hik : i = k
    · rw [if_pos hik]; exact hOB
    · rw [if_neg hik]; exact h.lt i (by omega)
  · by_cases hik : i = k <;> by_cases hjk : j = k
    · omega
    · rw [if_pos hik, if_neg hjk]; have := hne j (by omega); omega
    · rw [if_neg hik, if_pos hjk]; have := hne i (by omega); omega
    · rw [if_neg hik, if_neg hjk]; exact h.ne i j (by omega) (by omega) hij
end Go.Proofs.Ytffcfambgcaikaa
