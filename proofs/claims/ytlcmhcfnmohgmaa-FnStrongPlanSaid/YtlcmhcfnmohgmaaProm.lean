/- Rows of promises in memory. No condition. -/
import Derived.Test.YtlcmhcfnmohgmaaApp
namespace Go.Proofs.Ytlcmhcfnmohgmaa
open Go.RowKit
set_option linter.unusedVariables false
set_option linter.unusedSimpArgs false
structure Pr where
  f : Int
  t : Int
  lo : Int
  hi : Int
  deriving DecidableEq, Inhabited
def Pr.z : Pr := ⟨0, 0, 0, 0⟩
def Pr.val (b : Pr) : Value := .agg #[.int .i64 b.f, .int .i64 b.t, .int .i64 b.lo, .int .i64 b.hi]
def Pr.cells (b : Pr) : List Value := [.int .i64 b.f, .int .i64 b.t, .int .i64 b.lo, .int .i64 b.hi]
def prcells (l : List Pr) : List Value := l.flatMap Pr.cells
theorem prcells_length (l : List Pr) : (prcells l).length = l.length * 4 := by
  induction l with
  | nil => rfl
  | cons b l ih => simp [prcells, Pr.cells] at *; omega
theorem prcells_one (l : List Pr) : ∀ y ∈ prcells l, y.oneCell' = true := by
  intro y hy
  simp only [prcells, List.mem_flatMap, Pr.cells, List.mem_cons, List.not_mem_nil, or_false] at hy
  obtain ⟨b, _, rfl | rfl | rfl | rfl⟩ := hy <;> rfl
theorem prcells_append (l l' : List Pr) : prcells (l ++ l') = prcells l ++ prcells l' := by simp [prcells]
theorem prcells_at (l : List Pr) (i : Nat) (h : i < l.length) : (prcells l)[i*4]? = some (.int .i64 (l.getD i Pr.z).f) ∧ (prcells l)[i*4+1]? = some (.int .i64 (l.getD i Pr.z).t) ∧ (prcells l)[i*4+2]? = some (.int .i64 (l.getD i Pr.z).lo) ∧ (prcells l)[i*4+3]? = some (.int .i64 (l.getD i Pr.z).hi) := by
  induction l generalizing i with
  | nil => simp at h
  | cons c l ih =>
    cases i with
    | zero => simp [prcells, Pr.cells]
    | succ i =>
      have := ih i (by simpa using h)
      have e : (i+1)*4 = i*4+1+1+1+1 := by omega
      simp only [prcells, List.flatMap_cons, Pr.cells, List.cons_append, List.nil_append, e] at *
      simpa using this
def Prs (w : World) (base : Nat) (v : Value) (l : List Pr) : Prop := w.ownsRow base 50 4 v l.length (prcells l)
theorem Prs.open {w : World} {base : Nat} {v : Value} {l : List Pr} (h : Prs w base v l) :
    ∃ a cap, v = .slice a l.length cap ∧ l.length ≤ cap ∧ cap ≤ 9223372036854775807 ∧
      ∀ i, i < l.length → ∃ g, a = some ⟨g, 0, none⟩ ∧ base ≤ g ∧ g < w.heap.size ∧ (∀ j, w.frozen? ⟨g, j, none⟩ = false) ∧ ∀ j, j < l.length → w.cell? ⟨g, j * 4, none⟩ = some (.int .i64 (l.getD j Pr.z).f) ∧ w.cell? ⟨g, j * 4 + 1, none⟩ = some (.int .i64 (l.getD j Pr.z).t) ∧ w.cell? ⟨g, j * 4 + 2, none⟩ = some (.int .i64 (l.getD j Pr.z).lo) ∧ w.cell? ⟨g, j * 4 + 3, none⟩ = some (.int .i64 (l.getD j Pr.z).hi) := by
  obtain ⟨a, cap, rfl, h1, h2, h3⟩ := own_open h
  refine ⟨a, cap, rfl, h1, h2, fun i hi => ?_⟩
  obtain ⟨g, rfl, h4, h5, h6, h7⟩ := h3 (i * 4) (by omega)
  refine ⟨g, rfl, h4, h5, h6, fun j hj => ?_⟩
  obtain ⟨c0, c1, c2, c3⟩ := prcells_at l j hj
  rw [h7 _ (by omega), h7 _ (by omega), h7 _ (by omega), h7 _ (by omega)]
  exact ⟨c0, c1, c2, c3⟩
theorem Prs.at_ {w : World} {base n cap : Nat} {a : Option Addr} {l : List Pr} (h : Prs w base (.slice a n cap) l) {j : Nat} (hj : j < l.length) :
    ∃ g, a = some ⟨g, 0, none⟩ ∧ base ≤ g ∧ g < w.heap.size ∧ (∀ i, w.frozen? ⟨g, i, none⟩ = false) ∧ w.cell? ⟨g, j * 4, none⟩ = some (.int .i64 (l.getD j Pr.z).f) ∧ w.cell? ⟨g, j * 4 + 1, none⟩ = some (.int .i64 (l.getD j Pr.z).t) ∧ w.cell? ⟨g, j * 4 + 2, none⟩ = some (.int .i64 (l.getD j Pr.z).lo) ∧ w.cell? ⟨g, j * 4 + 3, none⟩ = some (.int .i64 (l.getD j Pr.z).hi) := by
  obtain ⟨a', cap', he, h1, h2, h3⟩ := h.open
  cases he
  obtain ⟨g, rfl, h4, h5, h6, h7⟩ := h3 j hj
  exact ⟨g, rfl, h4, h5, h6, h7 j hj⟩
theorem prcells_set (l : List Pr) (j : Nat) (b : Pr) (h : j < l.length) : ((((prcells l).set (j * 4) (.int .i64 b.f)).set (j * 4 + 1) (.int .i64 b.t)).set (j * 4 + 2) (.int .i64 b.lo)).set (j * 4 + 3) (.int .i64 b.hi) = prcells (l.set j b) := by
  induction l generalizing j with
  | nil => simp at h
  | cons c l ih =>
    cases j with
    | zero => simp [prcells, Pr.cells]
    | succ j =>
      have := ih j (by simpa using h)
      have e : (j+1)*4 = j*4+1+1+1+1 := by omega
      simp only [prcells, List.flatMap_cons, Pr.cells, List.cons_append, List.nil_append, e, List.set_cons_succ] at *
      rw [this]
theorem Prs.set {w : World} {base n g cap : Nat} {l : List Pr} (h : Prs w base (.slice (some ⟨g, 0, none⟩) n cap) l) {j : Nat} (hj : j < l.length) (b : Pr) :
    Prs ((((w.setCell ⟨g, j * 4, none⟩ (.int .i64 b.f)).setCell ⟨g, j * 4 + 1, none⟩ (.int .i64 b.t)).setCell ⟨g, j * 4 + 2, none⟩ (.int .i64 b.lo)).setCell ⟨g, j * 4 + 3, none⟩ (.int .i64 b.hi)) base (.slice (some ⟨g, 0, none⟩) n cap) (l.set j b) := by
  obtain ⟨a', cap', he, -⟩ := h.open
  cases he
  unfold Prs at *
  rw [List.length_set, ← prcells_set l j b hj]
  exact ((((h.stored _ _).1.stored _ _).1.stored _ _).1.stored _ _).1
theorem Prs.alloc {w : World} {base : Nat} {v : Value} {l : List Pr} (h : Prs w base v l) (o : Obj) : Prs (w.alloc o) base v l := World.ownsRow.alloc h o
theorem Prs.drew {w : World} {base : Nat} {v : Value} {l : List Pr} (h : Prs w base v l) : Prs w.drew base v l := h
theorem Prs.ext {w w' : World} {base : Nat} {v : Value} {l : List Pr} (h : Prs w base v l) (hb : Below w.heap.size w w') : Prs w' base v l := own_ext h hb
theorem Prs.base {w : World} {base base' : Nat} {v : Value} {l : List Pr} (h : Prs w base v l) (hb : base' ≤ base) : Prs w base' v l := own_base h hb
theorem Prs.lt {w : World} {base : Nat} {v : Value} {l : List Pr} (h : Prs w base v l) : ∀ k, v.ownBlock = some k → base ≤ k ∧ k < w.heap.size := own_lt h
theorem Prs.far {w w' : World} {base : Nat} {v : Value} {l : List Pr} {row : Option Nat} (h : Prs w base v l) (hg : w.grownBy w' row) (hne : ∀ k, v.ownBlock = some k → row ≠ some k) : Prs w' base v l := own_far h hg hne
theorem Prs.low {w : World} {base : Nat} {v : Value} {l : List Pr} (h : Prs w base v l) {p : Addr} (hp : p.block < base) (u : Value) : Prs (w.setCell p u) base v l := own_low h hp u
theorem Prs.nil (w : World) (base : Nat) : Prs w base (.slice none 0 0) [] := World.ownsRow_nil _ _ _ _
theorem Prs.lit (w : World) (b : Pr) : Prs (w.alloc (.cells #[.int .i64 b.f, .int .i64 b.t, .int .i64 b.lo, .int .i64 b.hi] 50)) w.heap.size (.slice (some ⟨w.heap.size, 0, none⟩) 1 1) [b] :=
  World.ownsRow_lit (e := 50) (size := 4) w #[.int .i64 b.f, .int .i64 b.t, .int .i64 b.lo, .int .i64 b.hi] 1 (Nat.le_refl _) (by decide) rfl
theorem Prs.ofBox {w : World} {p base : Nat} (h : Box w p 50 #[]) (hb : base ≤ p) : Prs w base (.slice (some ⟨p, 0, none⟩) 0 0) [] :=
  ⟨rfl, .inr ⟨p, 0, #[], rfl, hb, h, Nat.le_refl _, Nat.zero_le _, rfl, rfl⟩⟩
theorem Prs.ofBox1 {w : World} {p base : Nat} {b : Pr} (h : Box w p 50 #[.int .i64 b.f, .int .i64 b.t, .int .i64 b.lo, .int .i64 b.hi]) (hb : base ≤ p) : Prs w base (.slice (some ⟨p, 0, none⟩) 1 1) [b] :=
  ⟨rfl, .inr ⟨p, 1, #[.int .i64 b.f, .int .i64 b.t, .int .i64 b.lo, .int .i64 b.hi], rfl, hb, h, Nat.le_refl _, by decide, rfl, rfl⟩⟩
theorem Prs.cut {w : World} {base : Nat} {v : Value} {l l2 : List Pr} (h : w.ownsRow base 50 4 v (l.length + l2.length) (prcells l ++ prcells l2)) : Prs w base v (l ++ l2) := by
  unfold Prs
  rw [List.length_append, prcells_append]
  exact h
theorem info_promise : (Try.prog.info? 50).map (fun i => (i.zero, i.size, i.bytes)) = some (some (.agg #[.int .i64 0, .int .i64 0, .int .i64 0, .int .i64 0]), 4, 32) := by kernel_rfl
theorem wpl_appPr {ops : Array Oper} {rest : List Oper} {o : Oper} {a : Act} {Q : Exit → Act → World → Prop} (w : World) (hgd : o.guard = none) (s x : Operand)
    (ho : o.op = .call { callee := .builtin .append, args := #[s, x], argTypes := #[42, 42] })
    (base base2 : Nat) (v : Value) (l : List Pr) (hs : a.eval s = v) (hv : Prs w base v l) (u : Value) (l2 : List Pr) (hx : a.eval x = u) (hu : Prs w base2 u l2)
    (hlen : l.length + l2.length ≤ 1000000000) (hbase : base ≤ w.heap.size)
    (h : ∀ v' w', Prs w' base v' (l ++ l2) → w.grownBy w' v.ownBlock → wpList Try.prog ops Q rest (a.put o.dst v') w') : wpList Try.prog ops Q (o :: rest) a w := by
  obtain ⟨i0, hi, hz0, hz1, hz2⟩ := info_parts info_promise
  exact wpl_app w hgd s x 42 ho base base2 50 i0 _ 4 32 Try.underlying42 hi hz0 hz1 hz2 rfl (by decide) v l.length _ hs hv u l2.length _ hx hu (prcells_one _)
    (by unfold maxLen; omega) (by omega) hbase fun v' w' h1 h2 => h v' w' (Prs.cut h1) h2
theorem wp_appPr {o : Oper} {a : Act} {K : Act → World → Prop} {Q : Exit → Act → World → Prop} (w : World) (s x : Operand)
    (ho : o.op = .call { callee := .builtin .append, args := #[s, x], argTypes := #[42, 42] })
    (base base2 : Nat) (v : Value) (l : List Pr) (hs : a.eval s = v) (hv : Prs w base v l) (u : Value) (l2 : List Pr) (hx : a.eval x = u) (hu : Prs w base2 u l2)
    (hlen : l.length + l2.length ≤ 1000000000) (hbase : base ≤ w.heap.size)
    (h : ∀ v' w', Prs w' base v' (l ++ l2) → w.grownBy w' v.ownBlock → K (a.put o.dst v') w') : o.wp Try.prog a w K Q := by
  obtain ⟨i0, hi, hz0, hz1, hz2⟩ := info_parts info_promise
  exact wp_app w s x 42 ho base base2 50 i0 _ 4 32 Try.underlying42 hi hz0 hz1 hz2 rfl (by decide) v l.length _ hs hv u l2.length _ hx hu (prcells_one _)
    (by unfold maxLen; omega) (by omega) hbase fun v' w' h1 h2 => h v' w' (Prs.cut h1) h2
end Go.Proofs.Ytlcmhcfnmohgmaa
