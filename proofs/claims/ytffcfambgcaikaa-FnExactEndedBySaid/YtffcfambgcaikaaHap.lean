/- Rows of happenings in memory. No condition. -/
import Derived.Test.YtffcfambgcaikaaApp
namespace Go.Proofs.Ytffcfambgcaikaa
open Go.RowKit
set_option linter.unusedVariables false
set_option linter.unusedSimpArgs false
structure Hp where
  pt : Int
  tm : Int
  deriving DecidableEq, Inhabited
def Hp.z : Hp := ⟨0, 0⟩
def Hp.val (b : Hp) : Value := .agg #[.int .i64 b.pt, .int .i64 b.tm]
def Hp.cells (b : Hp) : List Value := [.int .i64 b.pt, .int .i64 b.tm]
def hpcells (l : List Hp) : List Value := l.flatMap Hp.cells
theorem hpcells_length (l : List Hp) : (hpcells l).length = l.length * 2 := by
  induction l with
  | nil => rfl
  | cons b l ih => simp [hpcells, Hp.cells] at *; omega
theorem hpcells_one (l : List Hp) : ∀ y ∈ hpcells l, y.oneCell' = true := by
  intro y hy
  simp only [hpcells, List.mem_flatMap, Hp.cells, List.mem_cons, List.not_mem_nil, or_false] at hy
  obtain ⟨b, _, rfl | rfl⟩ := hy <;> rfl
theorem hpcells_append (l l' : List Hp) : hpcells (l ++ l') = hpcells l ++ hpcells l' := by simp [hpcells]
theorem hpcells_at (l : List Hp) (i : Nat) (h : i < l.length) : (hpcells l)[i*2]? = some (.int .i64 (l.getD i Hp.z).pt) ∧ (hpcells l)[i*2+1]? = some (.int .i64 (l.getD i Hp.z).tm) := by
  induction l generalizing i with
  | nil => simp at h
  | cons c l ih =>
    cases i with
    | zero => simp [hpcells, Hp.cells]
    | succ i =>
      have := ih i (by simpa using h)
      have e : (i+1)*2 = i*2+1+1 := by omega
      simp only [hpcells, List.flatMap_cons, Hp.cells, List.cons_append, List.nil_append, e] at *
      simpa using this
def Hps (w : World) (base : Nat) (v : Value) (l : List Hp) : Prop := w.ownsRow base 30 2 v l.length (hpcells l)
theorem Hps.open {w : World} {base : Nat} {v : Value} {l : List Hp} (h : Hps w base v l) :
    ∃ a cap, v = .slice a l.length cap ∧ l.length ≤ cap ∧ cap ≤ 9223372036854775807 ∧
      ∀ i, i < l.length → ∃ g, a = some ⟨g, 0, none⟩ ∧ base ≤ g ∧ g < w.heap.size ∧ (∀ j, w.frozen? ⟨g, j, none⟩ = false) ∧ ∀ j, j < l.length → w.cell? ⟨g, j * 2, none⟩ = some (.int .i64 (l.getD j Hp.z).pt) ∧ w.cell? ⟨g, j * 2 + 1, none⟩ = some (.int .i64 (l.getD j Hp.z).tm) := by
  obtain ⟨a, cap, rfl, h1, h2, h3⟩ := own_open h
  refine ⟨a, cap, rfl, h1, h2, fun i hi => ?_⟩
  obtain ⟨g, rfl, h4, h5, h6, h7⟩ := h3 (i * 2) (by omega)
  refine ⟨g, rfl, h4, h5, h6, fun j hj => ?_⟩
  obtain ⟨c0, c1⟩ := hpcells_at l j hj
  rw [h7 _ (by omega), h7 _ (by omega)]
  exact ⟨c0, c1⟩
theorem Hps.at_ {w : World} {base n cap : Nat} {a : Option Addr} {l : List Hp} (h : Hps w base (.slice a n cap) l) {j : Nat} (hj : j < l.length) :
    ∃ g, a = some ⟨g, 0, none⟩ ∧ base ≤ g ∧ g < w.heap.size ∧ (∀ i, w.frozen? ⟨g, i, none⟩ = false) ∧ w.cell? ⟨g, j * 2, none⟩ = some (.int .i64 (l.getD j Hp.z).pt) ∧ w.cell? ⟨g, j * 2 + 1, none⟩ = some (.int .i64 (l.getD j Hp.z).tm) := by
  obtain ⟨a', cap', he, h1, h2, h3⟩ := h.open
  cases he
  obtain ⟨g, rfl, h4, h5, h6, h7⟩ := h3 j hj
  exact ⟨g, rfl, h4, h5, h6, h7 j hj⟩
theorem hpcells_set (l : List Hp) (j : Nat) (b : Hp) (h : j < l.length) : ((hpcells l).set (j * 2) (.int .i64 b.pt)).set (j * 2 + 1) (.int .i64 b.tm) = hpcells (l.set j b) := by
  induction l generalizing j with
  | nil => simp at h
  | cons c l ih =>
    cases j with
    | zero => simp [hpcells, Hp.cells]
    | succ j =>
      have := ih j (by simpa using h)
      have e : (j+1)*2 = j*2+1+1 := by omega
      simp only [hpcells, List.flatMap_cons, Hp.cells, List.cons_append, List.nil_append, e, List.set_cons_succ] at *
      rw [this]
theorem Hps.set {w : World} {base n g cap : Nat} {l : List Hp} (h : Hps w base (.slice (some ⟨g, 0, none⟩) n cap) l) {j : Nat} (hj : j < l.length) (b : Hp) :
    Hps ((w.setCell ⟨g, j * 2, none⟩ (.int .i64 b.pt)).setCell ⟨g, j * 2 + 1, none⟩ (.int .i64 b.tm)) base (.slice (some ⟨g, 0, none⟩) n cap) (l.set j b) := by
  obtain ⟨a', cap', he, -⟩ := h.open
  cases he
  unfold Hps at *
  rw [List.length_set, ← hpcells_set l j b hj]
  exact ((h.stored _ _).1.stored _ _).1
theorem Hps.alloc {w : World} {base : Nat} {v : Value} {l : List Hp} (h : Hps w base v l) (o : Obj) : Hps (w.alloc o) base v l := World.ownsRow.alloc h o
theorem Hps.drew {w : World} {base : Nat} {v : Value} {l : List Hp} (h : Hps w base v l) : Hps w.drew base v l := h
theorem Hps.ext {w w' : World} {base : Nat} {v : Value} {l : List Hp} (h : Hps w base v l) (hb : Below w.heap.size w w') : Hps w' base v l := own_ext h hb
theorem Hps.base {w : World} {base base' : Nat} {v : Value} {l : List Hp} (h : Hps w base v l) (hb : base' ≤ base) : Hps w base' v l := own_base h hb
theorem Hps.lt {w : World} {base : Nat} {v : Value} {l : List Hp} (h : Hps w base v l) : ∀ k, v.ownBlock = some k → base ≤ k ∧ k < w.heap.size := own_lt h
theorem Hps.far {w w' : World} {base : Nat} {v : Value} {l : List Hp} {row : Option Nat} (h : Hps w base v l) (hg : w.grownBy w' row) (hne : ∀ k, v.ownBlock = some k → row ≠ some k) : Hps w' base v l := own_far h hg hne
theorem Hps.low {w : World} {base : Nat} {v : Value} {l : List Hp} (h : Hps w base v l) {p : Addr} (hp : p.block < base) (u : Value) : Hps (w.setCell p u) base v l := own_low h hp u
theorem Hps.nil (w : World) (base : Nat) : Hps w base (.slice none 0 0) [] := World.ownsRow_nil _ _ _ _
theorem Hps.lit (w : World) (b : Hp) : Hps (w.alloc (.cells #[.int .i64 b.pt, .int .i64 b.tm] 30)) w.heap.size (.slice (some ⟨w.heap.size, 0, none⟩) 1 1) [b] :=
  World.ownsRow_lit (e := 30) (size := 2) w #[.int .i64 b.pt, .int .i64 b.tm] 1 (Nat.le_refl _) (by decide) rfl
theorem Hps.ofBox {w : World} {p base : Nat} (h : Box w p 30 #[]) (hb : base ≤ p) : Hps w base (.slice (some ⟨p, 0, none⟩) 0 0) [] :=
  ⟨rfl, .inr ⟨p, 0, #[], rfl, hb, h, Nat.le_refl _, Nat.zero_le _, rfl, rfl⟩⟩
theorem Hps.ofBox1 {w : World} {p base : Nat} {b : Hp} (h : Box w p 30 #[.int .i64 b.pt, .int .i64 b.tm]) (hb : base ≤ p) : Hps w base (.slice (some ⟨p, 0, none⟩) 1 1) [b] :=
  ⟨rfl, .inr ⟨p, 1, #[.int .i64 b.pt, .int .i64 b.tm], rfl, hb, h, Nat.le_refl _, by decide, rfl, rfl⟩⟩
theorem Hps.cut {w : World} {base : Nat} {v : Value} {l l2 : List Hp} (h : w.ownsRow base 30 2 v (l.length + l2.length) (hpcells l ++ hpcells l2)) : Hps w base v (l ++ l2) := by
  unfold Hps
  rw [List.length_append, hpcells_append]
  exact h
theorem info_happening : (Try.prog.info? 30).map (fun i => (i.zero, i.size, i.bytes)) = some (some (.agg #[.int .i64 0, .int .i64 0]), 2, 16) := by kernel_rfl
theorem wpl_appHp {ops : Array Oper} {rest : List Oper} {o : Oper} {a : Act} {Q : Exit → Act → World → Prop} (w : World) (hgd : o.guard = none) (s x : Operand)
    (ho : o.op = .call { callee := .builtin .append, args := #[s, x], argTypes := #[26, 26] })
    (base base2 : Nat) (v : Value) (l : List Hp) (hs : a.eval s = v) (hv : Hps w base v l) (u : Value) (l2 : List Hp) (hx : a.eval x = u) (hu : Hps w base2 u l2)
    (hlen : l.length + l2.length ≤ 1000000000) (hbase : base ≤ w.heap.size)
    (h : ∀ v' w', Hps w' base v' (l ++ l2) → w.grownBy w' v.ownBlock → wpList Try.prog ops Q rest (a.put o.dst v') w') : wpList Try.prog ops Q (o :: rest) a w := by
  obtain ⟨i0, hi, hz0, hz1, hz2⟩ := info_parts info_happening
  exact wpl_app w hgd s x 26 ho base base2 30 i0 _ 2 16 Try.underlying26 hi hz0 hz1 hz2 rfl (by decide) v l.length _ hs hv u l2.length _ hx hu (hpcells_one _)
    (by unfold maxLen; omega) (by omega) hbase fun v' w' h1 h2 => h v' w' (Hps.cut h1) h2
theorem wp_appHp {o : Oper} {a : Act} {K : Act → World → Prop} {Q : Exit → Act → World → Prop} (w : World) (s x : Operand)
    (ho : o.op = .call { callee := .builtin .append, args := #[s, x], argTypes := #[26, 26] })
    (base base2 : Nat) (v : Value) (l : List Hp) (hs : a.eval s = v) (hv : Hps w base v l) (u : Value) (l2 : List Hp) (hx : a.eval x = u) (hu : Hps w base2 u l2)
    (hlen : l.length + l2.length ≤ 1000000000) (hbase : base ≤ w.heap.size)
    (h : ∀ v' w', Hps w' base v' (l ++ l2) → w.grownBy w' v.ownBlock → K (a.put o.dst v') w') : o.wp Try.prog a w K Q := by
  obtain ⟨i0, hi, hz0, hz1, hz2⟩ := info_parts info_happening
  exact wp_app w s x 26 ho base base2 30 i0 _ 2 16 Try.underlying26 hi hz0 hz1 hz2 rfl (by decide) v l.length _ hs hv u l2.length _ hx hu (hpcells_one _)
    (by unfold maxLen; omega) (by omega) hbase fun v' w' h1 h2 => h v' w' (Hps.cut h1) h2
end Go.Proofs.Ytffcfambgcaikaa
