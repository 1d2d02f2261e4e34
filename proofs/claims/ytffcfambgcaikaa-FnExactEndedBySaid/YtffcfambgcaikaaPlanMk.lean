/- The walks of the functions that make plans of plans: copies, turned ones, further bounds. Conditions: the plan's bounds can be read; where they are appended to, fewer than two million. -/
import Derived.Test.YtffcfambgcaikaaPlanOk
namespace Go.Proofs.Ytffcfambgcaikaa
open Go.RowKit
set_option linter.unusedVariables false
set_option linter.unusedSimpArgs false
theorem run_app_zeros {P : Program} (w : World) (t tx ty e : TypeId) (i : TypeInfo) (z : Value) (size bytes : Nat) (ht : P.underlying t = some (.slice e)) (hx : P.underlying tx = some (.int .i64)) (hi : P.info? e = some i) (hz : i.zero = some z)
    (hsize : i.size = size) (hby : i.bytes = bytes) (hzs : z.cells.size = size) (hsz : 0 < size) (n : Nat) (hn : 0 < n) (hb : n * bytes ≤ 140737488355328) (hn2 : n ≤ 1000000000000) :
    ∃ cap w', (Builtin.append_ #[t, tx] ty #[.slice none 0 0, .int .i64 n]).run P w = .ok (.slice (some ⟨w.heap.size, 0, none⟩) n cap) w' ∧
      w'.ownsRow w.heap.size e size (.slice (some ⟨w.heap.size, 0, none⟩) 0 cap) 0 [] ∧ n ≤ cap ∧ cap ≤ maxLen ∧ w.grownBy w' none := by
  subst hsize
  subst hby
  have hcm : grownCap w n 0 e ≤ maxLen := grownCap_le_maxLen w n 0 e (by unfold maxLen; omega)
  have hcg := grownCap_ge w n 0 e
  refine ⟨grownCap w n 0 e, w.drew.alloc (.cells (Builtin.zeroCells z.cells n ++ Builtin.zeroCells z.cells (grownCap w n 0 e - n)) e), ?_, ⟨by simp, .inr ⟨w.heap.size, _, _, rfl, Nat.le_refl _, heap_alloc_new w.drew _, Nat.zero_le _, hcm, ?_, by simp⟩⟩, hcg, hcm, ⟨rfl, rfl, rfl, by simp, fun k hk _ => heap_alloc_old w.drew _ hk⟩⟩
  · have h0 : ¬ ((n : Int) < 0) := by omega
    have hw : IntKind.i64.wrap (n : Int) = n := IntWalk.i64_in _ (by omega)
    have h1 : ¬ (281474976710656 < (n : Int) * (i.bytes : Int)) := by
      rw [← Int.natCast_mul]
      generalize n * i.bytes = m at *
      omega
    have h2 : n ≠ 0 := by omega
    have h3 : n * i.size ≠ 0 := by have := Nat.mul_pos hn hsz; omega
    have h4 : ¬ (9223372036854775807 < (n : Int)) := by omega
    have h5 : ¬ (281474976710656 < n * i.bytes) := by omega
    simp [Builtin.append_, run_underlying ht, run_underlying hx, sizeOf, typeInfo, zeroValue, hi, hz, hw, h0, h1, h2, h3, h4, h5, asInt, asIntOf, Builtin.nextslicecap, Question.forced, newRow, grownCap, hn, Builtin.firstCells]
  · simp only [Array.size_append, size_zeroCells, hzs, ← Nat.add_mul]
    congr 1
    omega
def Pl.told (p : Pl) : Pl := if p.ok then p else Pl.zero
end Go.Proofs.Ytffcfambgcaikaa
