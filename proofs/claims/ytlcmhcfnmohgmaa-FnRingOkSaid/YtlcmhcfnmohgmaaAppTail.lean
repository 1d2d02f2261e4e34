/- The append of the tail of a row of numbers, as the walks meet it. No condition but that the rows can be read and stay below a thousand million. -/
import Derived.Test.YtlcmhcfnmohgmaaApp
namespace Go.Proofs.Ytlcmhcfnmohgmaa
open Go.RowKit
set_option linter.unusedVariables false
set_option linter.unusedSimpArgs false
theorem wp_appTail {o : Oper} {a : Act} {K : Act → World → Prop} {Q : Exit → Act → World → Prop} (w : World) (s x : Operand)
    (ho : o.op = .call { callee := .builtin .append, args := #[s, x], argTypes := #[33, 33] })
    (base : Nat) (v : Value) (l : List Int) (hs : a.eval s = v) (hv : Ints w base v l) (ao : Option Addr) (m c : Nat) (l2 : List Int) (hx : a.eval x = .slice ao m c) (hm : l2.length = m)
    (hnone : ao = none → m = 0 ∧ c = 0) (hc : ∀ ad, ao = some ad → ∀ t u, (l2.map (Value.int .i64))[t]? = some u → w.cell? (ad.add t) = some u)
    (hlen : l.length + l2.length ≤ 1000000000) (hbase : base ≤ w.heap.size)
    (h : ∀ v' w', Ints w' base v' (l ++ l2) → w.grownBy w' v.ownBlock → K (a.put o.dst v') w') : o.wp Try.prog a w K Q := by
  cases ao with
  | none =>
    obtain ⟨rfl, rfl⟩ := hnone rfl
    have hl2 : l2 = [] := List.eq_nil_of_length_eq_zero hm
    subst hl2
    exact wp_appI w s x ho base 0 v l hs hv (.slice none 0 0) [] hx (Ints.nil _ _) hlen hbase h
  | some ad =>
    obtain ⟨i0, hi, hz0, hz1, hz2⟩ := info_parts info_int
    obtain ⟨v', w', hr, h2, h3, _⟩ := run_append_own (P := Try.prog) w base 33 o.type 3 i0 _ 1 8 Try.underlying33 hi hz0 hz1 hz2 rfl (by decide) v l.length _ hv ad m c (l2.map (Value.int .i64)) (by simp [hm]) (hc ad rfl) (ints_one _) (by unfold maxLen; omega) (by omega) hbase
    unfold Oper.wp execOp
    simp only [ho, resolve, invoke, builtin, Sem.run_bind, Sem.run_pure, Result.andThen_ok, List.map_toArray, List.map_cons, List.map_nil, hs, hx, hr]
    exact h v' w' (Ints.cut (by rw [hm]; exact h2)) h3
theorem wpl_appTail {ops : Array Oper} {rest : List Oper} {o : Oper} {a : Act} {Q : Exit → Act → World → Prop} (w : World) (hgd : o.guard = none) (s x : Operand)
    (ho : o.op = .call { callee := .builtin .append, args := #[s, x], argTypes := #[33, 33] })
    (base : Nat) (v : Value) (l : List Int) (hs : a.eval s = v) (hv : Ints w base v l) (ao : Option Addr) (m c : Nat) (l2 : List Int) (hx : a.eval x = .slice ao m c) (hm : l2.length = m)
    (hnone : ao = none → m = 0 ∧ c = 0) (hc : ∀ ad, ao = some ad → ∀ t u, (l2.map (Value.int .i64))[t]? = some u → w.cell? (ad.add t) = some u)
    (hlen : l.length + l2.length ≤ 1000000000) (hbase : base ≤ w.heap.size)
    (h : ∀ v' w', Ints w' base v' (l ++ l2) → w.grownBy w' v.ownBlock → wpList Try.prog ops Q rest (a.put o.dst v') w') : wpList Try.prog ops Q (o :: rest) a w :=
  wpList_plain hgd fun _ hK => wp_appTail w s x ho base v l hs hv ao m c l2 hx hm hnone hc hlen hbase fun v' w' h2 h3 => hK _ _ (h v' w' h2 h3)
end Go.Proofs.Ytlcmhcfnmohgmaa
