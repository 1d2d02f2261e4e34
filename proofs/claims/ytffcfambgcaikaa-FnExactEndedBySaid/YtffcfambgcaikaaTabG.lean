/- Tables of numbers in memory, made by appends: what is read, what stays, a row appended. No condition. -/
import Derived.Test.YtffcfambgcaikaaTab
namespace Go.Proofs.Ytffcfambgcaikaa
open Go.RowKit
set_option linter.unusedVariables false
set_option linter.unusedSimpArgs false
/-- k rows of n numbers, their heads 'hs' -/
structure TabG (w : World) (base n k : Nat) (v : Value) (hs : List Value) (T : Tbl) : Prop where
  o : w.ownsRow base 41 1 v k hs
  r : ∀ i, i < k → Ints w base (hs.getD i undef) (rowOf n (T i))
/-- rows of different types lie in different blocks -/
theorem own_ne {w : World} {b1 b2 : Nat} {e1 e2 : TypeId} {s1 s2 : Nat} {v1 v2 : Value} {n1 n2 : Nat} {x1 x2 : List Value} (h1 : w.ownsRow b1 e1 s1 v1 n1 x1) (h2 : w.ownsRow b2 e2 s2 v2 n2 x2) (he : e1 ≠ e2) :
    ∀ q, v1.ownBlock = some q → v2.ownBlock ≠ some q := by
  obtain ⟨-, h1⟩ := h1
  obtain ⟨-, h2⟩ := h2
  intro q hq hq'
  rcases h1 with ⟨rfl, -⟩ | ⟨g, cap, cur, rfl, hg, hh, -⟩
  · cases hq
  · cases hq
    rcases h2 with ⟨rfl, -⟩ | ⟨g', cap', cur', rfl, hg', hh', -⟩
    · cases hq'
    · cases hq'
      rw [hh] at hh'
      injection hh' with e
      injection e with e1 e2
      exact he e2
theorem TabG.len {w : World} {base n k : Nat} {v : Value} {hs : List Value} {T : Tbl} (h : TabG w base n k v hs T) : hs.length = k := by have := h.o.1; omega
theorem TabG.open {w : World} {base n k : Nat} {v : Value} {hs : List Value} {T : Tbl} (h : TabG w base n k v hs T) : ∃ a cap, v = .slice a k cap ∧ k ≤ cap ∧ cap ≤ 9223372036854775807 := by
  obtain ⟨a, cap, rfl, h1, h2, -⟩ := own_open h.o
  exact ⟨a, cap, rfl, h1, h2⟩
theorem TabG.head {w : World} {base n k cap : Nat} {a : Option Addr} {hs : List Value} {T : Tbl} (h : TabG w base n k (.slice a k cap) hs T) {i : Nat} (hi : i < k) :
    ∃ g ai ci, a = some ⟨g, 0, none⟩ ∧ base ≤ g ∧ g < w.heap.size ∧ (∀ j, w.frozen? ⟨g, j, none⟩ = false) ∧ w.cell? ⟨g, i, none⟩ = some (.slice ai n ci) ∧ n ≤ ci ∧ ci ≤ 9223372036854775807 ∧ Ints w base (.slice ai n ci) (rowOf n (T i)) := by
  obtain ⟨a', cap', he, -, -, h3⟩ := own_open h.o
  cases he
  obtain ⟨g, rfl, h4, h5, h6, h7⟩ := h3 i (by omega)
  obtain ⟨ai, ci, he, h8, h9, -⟩ := (h.r i hi).open
  rw [rowOf_length] at he h8
  have hl := h.len
  refine ⟨g, ai, ci, rfl, h4, h5, h6, ?_, h8, h9, he ▸ h.r i hi⟩
  rw [h7 i (by omega), List.getElem?_eq_getElem (by omega)]
  rw [List.getD_eq_getElem?_getD, List.getElem?_eq_getElem (by omega)] at he
  exact congrArg some he
theorem TabG.ext {w w' : World} {base n k : Nat} {v : Value} {hs : List Value} {T : Tbl} (h : TabG w base n k v hs T) (hb : Below w.heap.size w w') : TabG w' base n k v hs T := ⟨own_ext h.o hb, fun i hi => (h.r i hi).ext hb⟩
theorem TabG.base {w : World} {base base' n k : Nat} {v : Value} {hs : List Value} {T : Tbl} (h : TabG w base n k v hs T) (hb : base' ≤ base) : TabG w base' n k v hs T := ⟨own_base h.o hb, fun i hi => (h.r i hi).base hb⟩
theorem TabG.congr {w : World} {base n k : Nat} {v : Value} {hs : List Value} {T T' : Tbl} (h : TabG w base n k v hs T) (hT : ∀ i j, i < k → j < n → T i j = T' i j) : TabG w base n k v hs T' :=
  ⟨h.o, fun i hi => by rw [← rowOf_congr n (T i) (T' i) fun j hj => hT i j hi hj]; exact h.r i hi⟩
theorem TabG.nil {w : World} {base n p : Nat} {T : Tbl} (h : Box w p 41 #[]) (hb : base ≤ p) : TabG w base n 0 (.slice (some ⟨p, 0, none⟩) 0 0) [] T :=
  ⟨⟨rfl, .inr ⟨p, 0, #[], rfl, hb, h, Nat.le_refl _, Nat.zero_le _, rfl, rfl⟩⟩, fun i hi => by omega⟩
theorem TabG.none (w : World) (base n : Nat) (T : Tbl) : TabG w base n 0 (.slice none 0 0) [] T := ⟨World.ownsRow_nil _ _ _ _, fun i hi => by omega⟩
/-- the row of one head, made to be appended -/
theorem heads_lit (w : World) (u : Value) : (w.alloc (.cells #[u] 41)).ownsRow w.heap.size 41 1 (.slice (some ⟨w.heap.size, 0, none⟩) 1 1) 1 [u] :=
  World.ownsRow_lit (e := 41) (size := 1) w #[u] 1 (Nat.le_refl _) (by decide) rfl
/-- behind an append of a head to the heads: one row more -/
theorem TabG.more {w w' : World} {base n k : Nat} {v v' u : Value} {hs : List Value} {T : Tbl} {f : Nat → Int} (h : TabG w base n k v hs T) (hu : Ints w base u (rowOf n f)) (ho : w'.ownsRow base 41 1 v' (k + 1) (hs ++ [u])) (hg : w.grownBy w' v.ownBlock) :
    TabG w' base n (k+1) v' (hs ++ [u]) (fun a c => if a = k then f c else T a c) := by
  have ne : ∀ {x : Value} {l : List Int}, Ints w base x l → Ints w' base x l := fun hx => hx.far hg fun q hq => own_ne hx h.o (by decide) q hq
  have hl := h.len
  refine ⟨ho, fun i hi => ?_⟩
  by_cases hik : i = k
  · subst hik
    rw [rowOf_congr n (fun c => if i = i then f c else T i c) f fun j hj => if_pos rfl, List.getD_eq_getElem?_getD, List.getElem?_append_right (by omega), hl, Nat.sub_self]
    exact ne hu
  · rw [rowOf_congr n (fun c => if i = k then f c else T i c) (T i) fun j hj => if_neg hik, List.getD_eq_getElem?_getD, List.getElem?_append_left (by omega), ← List.getD_eq_getElem?_getD]
    exact ne (h.r i (by omega))
theorem wpl_appT {ops : Array Oper} {rest : List Oper} {o : Oper} {a : Act} {Q : Exit → Act → World → Prop} (w : World) (hgd : o.guard = none) (s x : Operand)
    (ho : o.op = .call { callee := .builtin .append, args := #[s, x], argTypes := #[93, 93] })
    (base n k : Nat) (v u : Value) (hs : List Value) (T : Tbl) (f : Nat → Int) (B : Nat) (hsv : a.eval s = v) (hv : TabG w base n k v hs T) (hx : a.eval x = .slice (some ⟨B, 0, none⟩) 1 1) (hB : w.ownsRow 0 41 1 (.slice (some ⟨B, 0, none⟩) 1 1) 1 [u]) (hB1 : u.oneCell' = true)
    (hu : Ints w base u (rowOf n f)) (hlen : k ≤ 1000000) (hbase : base ≤ w.heap.size)
    (h : ∀ v' w', TabG w' base n (k+1) v' (hs ++ [u]) (fun a c => if a = k then f c else T a c) → w.grownBy w' v.ownBlock → wpList Try.prog ops Q rest (a.put o.dst v') w') : wpList Try.prog ops Q (o :: rest) a w := by
  obtain ⟨i0, hi, hz0, hz1, hz2⟩ := info_parts info_ints
  exact wpl_app w hgd s x 93 ho base 0 41 i0 _ 1 24 Try.underlying93 hi hz0 hz1 hz2 rfl (by decide) v k hs hsv hv.o _ 1 [u] hx hB (fun y hy => by rw [List.mem_singleton.1 hy]; exact hB1)
    (by unfold maxLen; omega) (by omega) hbase fun v' w' h1 h2 => h v' w' (hv.more hu h1 h2) h2
/-- a table in a block of its own, as such a table -/
theorem TabP.asG {w : World} {O n : Nat} {b : Nat → Nat} {T : Tbl} (h : TabP w O n n b T) : TabG w O n n (.slice (some ⟨O, 0, none⟩) n n) (headsTo b n n) T :=
  ⟨h.o, fun i hi => by rw [List.getD_eq_getElem?_getD, headsTo_at _ _ _ _ hi, if_pos hi]; exact h.r i hi⟩
end Go.Proofs.Ytffcfambgcaikaa
