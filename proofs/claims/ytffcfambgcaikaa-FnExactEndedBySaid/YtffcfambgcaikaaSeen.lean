/- A map from numbers to truth values that a call makes for itself: what is looked up, what a store changes. Conditions as each lemma names them. -/
import Derived.Test.YtffcfambgcaikaaBase
import Derived.Maps.OwnSet
namespace Go.Proofs.Ytffcfambgcaikaa
open Go.RowKit Go.Maps
set_option linter.unusedVariables false
set_option linter.unusedSimpArgs false
theorem seen_law : Keyed Try.prog 3 := int_keyed Try.underlying3
theorem seen_zero (w : World) : (zeroValue 4).run Try.prog w = .ok (.bool false) w := by kernel_rfl
/-- block B is a map, of at most m entries, that holds true at the numbers of f -/
def SeenN (w : World) (B m : Nat) (f : Int → Bool) : Prop :=
  ∃ D : DataW Unit, w.ownsMap Try.prog 3 (plainElem Try.prog 4) B m D ∧ ∀ x : Int, D.atKey (.int .i64 x) (.lit (.bool false)) = .lit (.bool (f x))
set_option maxRecDepth 100000 in
theorem elem_bool_inv {v : Value} {x : Bool} {ps : List MemPlace} (h : plainElem (H := Unit) Try.prog 4 v = some (.lit (.bool x), ps)) : v = .bool x := by
  unfold plainElem at h
  rw [Try.underlying4] at h
  split at h
  · injection h with h; injection h with h1 h2; injection h1 with h1; injection h1 with h1; rw [h1]
  · rename_i e; cases e
  · rename_i e; cases e
  · cases h
theorem SeenN.made (w : World) : SeenN (w.alloc (.map #[] 0)) w.heap.size 0 (fun _ => false) :=
  ⟨.map [], World.ownsMap_made _ _ _ _, fun x => rfl⟩
theorem SeenN.lt {w : World} {B m : Nat} {f : Int → Bool} (h : SeenN w B m f) : B < w.heap.size := by obtain ⟨D, h1, -⟩ := h; exact h1.lt
theorem SeenN.grown {w w' : World} {B m : Nat} {f : Int → Bool} {row : Option Nat} (h : SeenN w B m f) (hg : w.grownBy w' row) (hne : some B ≠ row) : SeenN w' B m f := by
  obtain ⟨D, h1, h2⟩ := h; exact ⟨D, h1.kept hg hne, h2⟩
theorem SeenN.ext {w w' : World} {B m : Nat} {f : Int → Bool} (h : SeenN w B m f) (hb : Below w.heap.size w w') : SeenN w' B m f :=
  h.grown (row := none) ⟨hb.os, hb.tape, hb.output, hb.size, fun k hk _ => hb.block k hk⟩ (by simp)
theorem SeenN.set {w : World} {B m : Nat} {f : Int → Bool} (h : SeenN w B m f) {p : Addr} (hp : B ≠ p.block) (u : Value) : SeenN (w.setCell p u) B m f := by
  obtain ⟨D, h1, h2⟩ := h; exact ⟨D, h1.setCell hp u, h2⟩
theorem SeenN.look {w : World} {B m : Nat} {f : Int → Bool} (h : SeenN w B m f) (x : Int) (hx : -9223372036854775808 ≤ x ∧ x ≤ 9223372036854775807) :
    (Instr.lookup 73 (.map (some B)) (.int .i64 x) false).run Try.prog w = .ok (.bool (f x)) w := by
  obtain ⟨D, h1, h2⟩ := h
  obtain ⟨v, ps, hrun, hv⟩ := h1.lookup (t := 73) (e := 4) seen_law Try.underlying73 (seen_zero w) (plainElem_bool Try.underlying4 false) (keyOf_int_mk Try.underlying3 (WalkArith.wf_i64 hx))
  rw [h2 x] at hv
  rw [hrun, elem_bool_inv hv]
theorem SeenN.put {w : World} {B m : Nat} {f : Int → Bool} (h : SeenN w B m f) (hm : m ≤ 1000000000) (x : Int) (hx : -9223372036854775808 ≤ x ∧ x ≤ 9223372036854775807) (b : Bool) :
    ∃ w', (Instr.mapUpdate 73 (.map (some B)) (.int .i64 x) (.bool b)).run Try.prog w = .ok () w' ∧ SeenN w' B (m+1) (fun y => if y = x then b else f y) ∧ w.grownBy w' (some B) := by
  obtain ⟨D, h1, h2⟩ := h
  obtain ⟨w', hrun, ho, hg⟩ := h1.update (t := 73) (e := 4) seen_law Try.underlying73 (by unfold maxLen; omega) (keyOf_int_mk Try.underlying3 (WalkArith.wf_i64 hx)) (plainElem_bool Try.underlying4 b)
  refine ⟨w', hrun, ⟨_, ho, fun y => ?_⟩, hg⟩
  show _ = DataW.lit (Lit.bool (if y = x then b else f y))
  by_cases e : y = x
  · subst e
    rw [if_pos rfl, atKey_put_same (k := .int .i64 y) h1.isMap (show WideAt.IsKeyLit (.int .i64 y) from trivial)]
  · rw [if_neg e, atKey_put_other (fun h => e (by injection h)), h2 y]
theorem wpl_seenPut {ops : Array Oper} {rest : List Oper} {o : Oper} {a : Act} {Q : Exit → Act → World → Prop} (w : World) (hg : o.guard = none) (mo x v : Operand)
    (hop : o.op = Op.mapUpdate 73 mo x v) (B m : Nat) (f : Int → Bool) (hm : a.eval mo = .map (some B)) (h : SeenN w B m f) (hmm : m ≤ 1000000000) (z : Int) (b : Bool) (hx : a.eval x = .int .i64 z) (hz : -9223372036854775808 ≤ z ∧ z ≤ 9223372036854775807) (hv : a.eval v = .bool b)
    (hK : ∀ w', SeenN w' B (m+1) (fun y => if y = z then b else f y) → w.grownBy w' (some B) → wpList Try.prog ops Q rest (a.put o.dst undef) w') : wpList Try.prog ops Q (o :: rest) a w := by
  refine wpList_plain hg fun K' hK' => ?_
  obtain ⟨w', hrun, r1, r2⟩ := h.put hmm z hz b
  unfold Oper.wp
  simp [execOp, hop, hm, hx, hv, hrun, Result.andThen]
  exact hK' _ _ (hK w' r1 r2)
theorem wpl_seenIns {ops : Array Oper} {rest : List Oper} {o : Oper} {a : Act} {Q : Exit → Act → World → Prop} (w : World) (hg : o.guard = none) (mo x v : Operand)
    (hop : o.op = Op.insert 73 mo x v) (B m : Nat) (f : Int → Bool) (hm : a.eval mo = .map (some B)) (h : SeenN w B m f) (hmm : m ≤ 1000000000) (z : Int) (b : Bool) (hx : a.eval x = .int .i64 z) (hz : -9223372036854775808 ≤ z ∧ z ≤ 9223372036854775807) (hv : a.eval v = .bool b)
    (hK : ∀ w', SeenN w' B (m+1) (fun y => if y = z then b else f y) → w.grownBy w' (some B) → wpList Try.prog ops Q rest (a.put o.dst undef) w') : wpList Try.prog ops Q (o :: rest) a w := by
  refine wpList_plain hg fun K' hK' => ?_
  obtain ⟨w', hrun, r1, r2⟩ := h.put hmm z hz b
  unfold Oper.wp
  simp [execOp, hop, hm, hx, hv, hrun, Result.andThen]
  exact hK' _ _ (hK w' r1 r2)
end Go.Proofs.Ytffcfambgcaikaa
