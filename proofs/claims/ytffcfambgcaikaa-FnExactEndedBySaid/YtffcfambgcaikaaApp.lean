/- Appends to rows of numbers and of bounds, as the walks meet them. No condition but that the rows can be read and stay below a thousand million. -/
import Derived.Test.YtffcfambgcaikaaBase
namespace Go.Proofs.Ytffcfambgcaikaa
open Go.RowKit
set_option linter.unusedVariables false
set_option linter.unusedSimpArgs false
theorem ints_one (l : List Int) : ∀ y ∈ l.map (Value.int .i64), y.oneCell' = true := by
  intro y hy
  simp only [List.mem_map] at hy
  obtain ⟨x, _, rfl⟩ := hy
  rfl
theorem Ints.lit (w : World) (x : Int) : Ints (w.alloc (.cells #[.int .i64 x] 3)) w.heap.size (.slice (some ⟨w.heap.size, 0, none⟩) 1 1) [x] :=
  World.ownsRow_lit (e := 3) (size := 1) w #[.int .i64 x] 1 (Nat.le_refl _) (by decide) rfl
theorem Ints.ofBox {w : World} {p base : Nat} (h : Box w p 3 #[]) (hb : base ≤ p) : Ints w base (.slice (some ⟨p, 0, none⟩) 0 0) [] :=
  ⟨rfl, .inr ⟨p, 0, #[], rfl, hb, h, Nat.le_refl _, Nat.zero_le _, rfl, rfl⟩⟩
theorem Ints.cut {w : World} {base : Nat} {v : Value} {l l2 : List Int} (h : w.ownsRow base 3 1 v (l.length + l2.length) (l.map (Value.int .i64) ++ l2.map (Value.int .i64))) : Ints w base v (l ++ l2) := by
  unfold Ints
  rw [List.length_append, List.map_append]
  exact h
theorem wpl_appI {ops : Array Oper} {rest : List Oper} {o : Oper} {a : Act} {Q : Exit → Act → World → Prop} (w : World) (hgd : o.guard = none) (s x : Operand)
    (ho : o.op = .call { callee := .builtin .append, args := #[s, x], argTypes := #[41, 41] })
    (base base2 : Nat) (v : Value) (l : List Int) (hs : a.eval s = v) (hv : Ints w base v l) (u : Value) (l2 : List Int) (hx : a.eval x = u) (hu : Ints w base2 u l2)
    (hlen : l.length + l2.length ≤ 1000000000) (hbase : base ≤ w.heap.size)
    (h : ∀ v' w', Ints w' base v' (l ++ l2) → w.grownBy w' v.ownBlock → wpList Try.prog ops Q rest (a.put o.dst v') w') : wpList Try.prog ops Q (o :: rest) a w := by
  obtain ⟨i0, hi, hz0, hz1, hz2⟩ := info_parts info_int
  exact wpl_app w hgd s x 41 ho base base2 3 i0 _ 1 8 Try.underlying41 hi hz0 hz1 hz2 rfl (by decide) v l.length _ hs hv u l2.length _ hx hu (ints_one _)
    (by unfold maxLen; omega) (by omega) hbase fun v' w' h1 h2 => h v' w' (Ints.cut h1) h2
theorem wp_appI {o : Oper} {a : Act} {K : Act → World → Prop} {Q : Exit → Act → World → Prop} (w : World) (s x : Operand)
    (ho : o.op = .call { callee := .builtin .append, args := #[s, x], argTypes := #[41, 41] })
    (base base2 : Nat) (v : Value) (l : List Int) (hs : a.eval s = v) (hv : Ints w base v l) (u : Value) (l2 : List Int) (hx : a.eval x = u) (hu : Ints w base2 u l2)
    (hlen : l.length + l2.length ≤ 1000000000) (hbase : base ≤ w.heap.size)
    (h : ∀ v' w', Ints w' base v' (l ++ l2) → w.grownBy w' v.ownBlock → K (a.put o.dst v') w') : o.wp Try.prog a w K Q := by
  obtain ⟨i0, hi, hz0, hz1, hz2⟩ := info_parts info_int
  exact wp_app w s x 41 ho base base2 3 i0 _ 1 8 Try.underlying41 hi hz0 hz1 hz2 rfl (by decide) v l.length _ hs hv u l2.length _ hx hu (ints_one _)
    (by unfold maxLen; omega) (by omega) hbase fun v' w' h1 h2 => h v' w' (Ints.cut h1) h2
theorem step_appI {ops : Array Oper} {o : Oper} {a : Act} {K : Act → World → Prop} {Q : Exit → Act → World → Prop} {E : Prop} (w : World) (hgd : o.guard = none) (s x : Operand)
    (ho : o.op = .call { callee := .builtin .append, args := #[s, x], argTypes := #[41, 41] })
    (base base2 : Nat) (v : Value) (l : List Int) (hs : a.eval s = v) (hv : Ints w base v l) (u : Value) (l2 : List Int) (hx : a.eval x = u) (hu : Ints w base2 u l2)
    (hlen : l.length + l2.length ≤ 1000000000) (hbase : base ≤ w.heap.size)
    (h : ∀ v' w', Ints w' base v' (l ++ l2) → w.grownBy w' v.ownBlock → K (a.put o.dst v') w') :
    if Region.wanted o (yielded ops a.tmps) = true then Oper.wp Try.prog o a w K Q else E := by
  have hw : Region.wanted o (yielded ops a.tmps) = true := by simp [Region.wanted, hgd]
  rw [if_pos hw]
  exact wp_appI w s x ho base base2 v l hs hv u l2 hx hu hlen hbase h
theorem Bds.lit (w : World) (b : Bd) : Bds (w.alloc (.cells #[.int .i64 b.f, .int .i64 b.t, .int .i64 b.m] 78)) w.heap.size (.slice (some ⟨w.heap.size, 0, none⟩) 1 1) [b] :=
  World.ownsRow_lit (e := 78) (size := 3) w #[.int .i64 b.f, .int .i64 b.t, .int .i64 b.m] 1 (Nat.le_refl _) (by decide) rfl
theorem Bds.ofBox {w : World} {p base : Nat} (h : Box w p 78 #[]) (hb : base ≤ p) : Bds w base (.slice (some ⟨p, 0, none⟩) 0 0) [] :=
  ⟨rfl, .inr ⟨p, 0, #[], rfl, hb, h, Nat.le_refl _, Nat.zero_le _, rfl, rfl⟩⟩
theorem Bds.ofBox1 {w : World} {p base : Nat} {b : Bd} (h : Box w p 78 #[.int .i64 b.f, .int .i64 b.t, .int .i64 b.m]) (hb : base ≤ p) : Bds w base (.slice (some ⟨p, 0, none⟩) 1 1) [b] :=
  ⟨rfl, .inr ⟨p, 1, #[.int .i64 b.f, .int .i64 b.t, .int .i64 b.m], rfl, hb, h, Nat.le_refl _, by decide, rfl, rfl⟩⟩
theorem Bds.cut {w : World} {base : Nat} {v : Value} {l l2 : List Bd} (h : w.ownsRow base 78 3 v (l.length + l2.length) (bcells l ++ bcells l2)) : Bds w base v (l ++ l2) := by
  unfold Bds
  rw [List.length_append, bcells_append]
  exact h
theorem wpl_appB {ops : Array Oper} {rest : List Oper} {o : Oper} {a : Act} {Q : Exit → Act → World → Prop} (w : World) (hgd : o.guard = none) (s x : Operand)
    (ho : o.op = .call { callee := .builtin .append, args := #[s, x], argTypes := #[23, 23] })
    (base base2 : Nat) (v : Value) (l : List Bd) (hs : a.eval s = v) (hv : Bds w base v l) (u : Value) (l2 : List Bd) (hx : a.eval x = u) (hu : Bds w base2 u l2)
    (hlen : l.length + l2.length ≤ 1000000000) (hbase : base ≤ w.heap.size)
    (h : ∀ v' w', Bds w' base v' (l ++ l2) → w.grownBy w' v.ownBlock → wpList Try.prog ops Q rest (a.put o.dst v') w') : wpList Try.prog ops Q (o :: rest) a w := by
  obtain ⟨i0, hi, hz0, hz1, hz2⟩ := info_parts info_bound
  exact wpl_app w hgd s x 23 ho base base2 78 i0 _ 3 24 Try.underlying23 hi hz0 hz1 hz2 rfl (by decide) v l.length _ hs hv u l2.length _ hx hu (bcells_one _)
    (by unfold maxLen; omega) (by omega) hbase fun v' w' h1 h2 => h v' w' (Bds.cut h1) h2
theorem wp_appB {o : Oper} {a : Act} {K : Act → World → Prop} {Q : Exit → Act → World → Prop} (w : World) (s x : Operand)
    (ho : o.op = .call { callee := .builtin .append, args := #[s, x], argTypes := #[23, 23] })
    (base base2 : Nat) (v : Value) (l : List Bd) (hs : a.eval s = v) (hv : Bds w base v l) (u : Value) (l2 : List Bd) (hx : a.eval x = u) (hu : Bds w base2 u l2)
    (hlen : l.length + l2.length ≤ 1000000000) (hbase : base ≤ w.heap.size)
    (h : ∀ v' w', Bds w' base v' (l ++ l2) → w.grownBy w' v.ownBlock → K (a.put o.dst v') w') : o.wp Try.prog a w K Q := by
  obtain ⟨i0, hi, hz0, hz1, hz2⟩ := info_parts info_bound
  exact wp_app w s x 23 ho base base2 78 i0 _ 3 24 Try.underlying23 hi hz0 hz1 hz2 rfl (by decide) v l.length _ hs hv u l2.length _ hx hu (bcells_one _)
    (by unfold maxLen; omega) (by omega) hbase fun v' w' h1 h2 => h v' w' (Bds.cut h1) h2
end Go.Proofs.Ytffcfambgcaikaa
