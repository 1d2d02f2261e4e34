/- The walks of hasInt and ascend. Condition: the numbers can be read. -/
import Derived.Test.YtllicgomlohffaaLawInts
import Derived.Test.YtllicgomlohffaaLateM
import Derived.Test.YtllicgomlohffaaLate
namespace Go.Proofs.Ytllicgomlohffaa
open Go.RowKit
set_option linter.unusedVariables false
set_option linter.unusedSimpArgs false
set_option maxRecDepth 100000 in
set_option maxHeartbeats 1000000 in
theorem laws_hasInt (v : Value) (l : List Int) (x : Int) (w : World) (hv : Ints w 0 v l) :
    Calls Try.prog 36 #[v, .int .i64 x] w fun e w' => e = .returned (.bool (decide (∃ j, j < l.length ∧ l.getD j 0 = x))) ∧ Below w.heap.size w w' := by
  have Hv := Lib.hid hv
  obtain ⟨a, cap, rfl, hn, hc, -⟩ := hv.open
  clear hv
  go_enter Try.func36, Try.ntmps36
  go_wp2_with fail
  go_loopg [5] l.length (fun m k wr => ∃ j : Nat, j ≤ l.length ∧ m = l.length - j ∧ k = .int .i64 j ∧ wr = w ∧ Hid (∀ i, i < j → l.getD i 0 ≠ x))
  case atStart => exact ⟨0, by omega, by omega, rfl, rfl, fun i hi => by omega⟩
  case round =>
    obtain ⟨j, hj, hgk, rfl, rfl, Hall⟩ := hrel
    have Hk := Lib.hid hgk
    clear hgk
    by_cases hlt : j < l.length
    · obtain ⟨g, rfl, _, hg, _, k0⟩ := Hv.out.at_ hlt
      obtain ⟨b, Hb⟩ : ∃ b, Hid (b = l.getD j 0) := ⟨_, rfl⟩
      rw [← Hb.out] at k0
      by_cases hbb : b = x
      · have hbn : (b == x) = true := by simp [hbb]
        have Hbb := Lib.hid hbb
        clear hbb
        go_wp2_with fail
        go_ret
        refine ⟨?_, ext_refl _⟩
        rw [decide_eq_true ⟨j, hlt, by rw [← Hb.out]; exact Hbb.out⟩]; rfl
      · have hbn : (b == x) = false := by simp [hbb]
        have Hbb := Lib.hid hbb
        clear hbb
        go_wp2_with fail
        go_roundg (l.length - (j+1))
        case rel =>
          refine ⟨j+1, by omega, rfl, by go_num, rfl, fun i hi => ?_⟩
          by_cases hij : i = j
          · subst hij; rw [← Hb.out]; exact Hbb.out
          · exact Hall.out i (by omega)
        case measure => have := Hk.out; omega
    · have hjl : j = l.length := by omega
      subst hjl
      go_wp2_with fail
      go_ret
      refine ⟨?_, ext_refl _⟩
      rw [decide_eq_false (fun ⟨i, h1, h2⟩ => Hall.out i h1 h2)]; rfl
set_option maxRecDepth 100000 in
set_option maxHeartbeats 1000000 in
theorem laws_ascend (v : Value) (l : List Int) (w : World) (hv : Ints w 0 v l) (ha : ∀ i, i + 1 < l.length → l.getD i 0 < l.getD (i+1) 0) :
    Calls Try.prog 40 #[v] w fun e w' => e = .returned (.bool true) ∧ Below w.heap.size w w' := by
  have Hv := Lib.hid hv
  have Ha := Lib.hid ha
  clear ha
  obtain ⟨a, cap, rfl, hn, hc, -⟩ := hv.open
  clear hv
  obtain ⟨n, hN⟩ : ∃ n, Hid (n = l.length) := ⟨_, rfl⟩
  rw [← hN.out] at hn Hv ⊢
  go_enter Try.func40, Try.ntmps40
  go_wp2_with fail
  go_loopg [3] (n + 1) (fun m k wr => ∃ j : Nat, (j = 0 ∨ j + 1 ≤ n) ∧ m = n + 1 - j ∧ k = .int .i64 ((j : Int) + 1) ∧ Below w.heap.size w wr)
  case atStart => exact ⟨0, .inl rfl, by omega, rfl, ext_refl _⟩
  case round =>
    obtain ⟨j, hj, hgk, rfl, hbel⟩ := hrel
    have Hk := Lib.hid hgk
    have Hj := Lib.hid hj
    clear hgk hj
    by_cases hlt : j + 1 < n
    · have hlt1 : j + 1 < l.length := by rw [← hN.out]; exact hlt
      have hlt0 : j < l.length := by omega
      obtain ⟨g, rfl, _, hg, _, k0⟩ := (Hv.out.ext hbel).at_ hlt0
      have k1 : wr.cell? ⟨g, j + 1, none⟩ = some (.int .i64 (l.getD (j+1) 0)) := (Hv.out.ext hbel).cellI hlt1
      obtain ⟨x, Hx⟩ : ∃ b, Hid (b = l.getD j 0) := ⟨_, rfl⟩
      obtain ⟨y, Hy⟩ : ∃ b, Hid (b = l.getD (j+1) 0) := ⟨_, rfl⟩
      rw [← Hx.out] at k0
      rw [← Hy.out] at k1
      have hw : IntKind.i64.wrap ((j : Int) + 1 - 1) = j := by rw [show (j : Int) + 1 - 1 = j by omega]; exact IntWalk.i64_in _ (by omega)
      have hwt : ((j : Int) + 1 - 1).toNat = j := by omega
      clear hlt1 hlt0
      have hbb : x < y := by rw [Hx.out, Hy.out]; exact Ha.out j (by rw [← hN.out]; exact hlt)
      have hbn : ¬ y ≤ x := by omega
      go_wp2_with fail
      go_quiet (fail)
      go_wp2_with fail
      go_roundg (n + 1 - (j+1))
      case rel => exact ⟨j+1, .inr (by omega), rfl, by go_num, ext_trans hbel (ext_drewN' _ _)⟩
      case measure => have := Hk.out; omega
    · have hge : ¬ ((j : Int) + 1 < n) := by omega
      go_wp2_with fail
      go_ret
      exact ⟨rfl, hbel⟩
end Go.Proofs.Ytllicgomlohffaa
