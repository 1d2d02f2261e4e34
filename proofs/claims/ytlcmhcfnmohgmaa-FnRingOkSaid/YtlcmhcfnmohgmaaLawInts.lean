/- The walks of the helpers of laws on rows of numbers: copies of the arguments, equality, marks. Conditions: the numbers can be read, and are at most a few million. -/
import Derived.Test.YtlcmhcfnmohgmaaApp
import Derived.Deep.Cut
namespace Go.Proofs.Ytlcmhcfnmohgmaa
open Go.RowKit
set_option linter.unusedVariables false
set_option linter.unusedSimpArgs false
theorem ext_drewN' (w : World) (n : Nat) : Below w.heap.size w (w.drewN n) := ⟨rfl, rfl, rfl, Nat.le_refl _, fun _ _ => rfl⟩
theorem eq_ints (l l' : List Int) (h : l.length = l'.length) (hall : ∀ j, j < l.length → l.getD j 0 = l'.getD j 0) : l = l' := by
  apply List.ext_getElem h
  intro i h1 h2
  have := hall i h1
  simpa [List.getD_eq_getElem?_getD, h1, h2] using this
def szI (left : Int) (n : Nat) : Int := if left - n < 0 then -1 else left - n
theorem szI_neg {left : Int} {n : Nat} (h : left - n < 0) : szI left n = -1 := if_pos h
theorem szI_pos {left : Int} {n : Nat} (h : ¬ left - n < 0) : szI left n = left - n := if_neg h
/-- A slice of numbers that came in: wherever it lies. -/
def AInts (w : World) (a : Option Addr) (n cap : Nat) (l : List Int) : Prop := l.length = n ∧ n ≤ cap ∧ cap ≤ 9223372036854775807 ∧
  ∀ j, j < n → ∃ b o, a = some ⟨b, o, none⟩ ∧ b < w.heap.size ∧ w.cell? ⟨b, o + j, none⟩ = some (.int .i64 (l.getD j 0))
theorem AInts.ext {w w' : World} {a : Option Addr} {n cap : Nat} {l : List Int} (h : AInts w a n cap l) (hb : Below w.heap.size w w') : AInts w' a n cap l := by
  obtain ⟨h1, h2, h3, h4⟩ := h
  refine ⟨h1, h2, h3, fun j hj => ?_⟩
  obtain ⟨b, o, rfl, g0, g1⟩ := h4 j hj
  exact ⟨b, o, rfl, Nat.lt_of_lt_of_le g0 hb.size, (hb.cell (by exact g0)).trans g1⟩
set_option maxRecDepth 100000 in
set_option maxHeartbeats 1000000 in
theorem laws_sameInts (v v' : Value) (l l' : List Int) (w : World) (hv : Ints w 0 v l) (hv' : Ints w 0 v' l') :
    Calls Try.prog 49 #[v, v'] w fun e w' => e = .returned (.bool (decide (l = l'))) ∧ Below w.heap.size w w' := by
  have Hv := Lib.hid hv; have Hv' := Lib.hid hv'
  obtain ⟨a, cap, rfl, hn, hc, -⟩ := hv.open
  obtain ⟨a', cap', rfl, hn', hc', -⟩ := hv'.open
  clear hv hv'
  by_cases hlen : l.length = l'.length
  · have Hlen := Lib.hid hlen
    have hne : ((l.length : Int) != (l'.length : Int)) = false := by simp [hlen]
    clear hlen
    go_enter Try.func49, Try.ntmps49
    go_wp2_with fail
    go_loopg [5] l.length (fun m k wr => ∃ j : Nat, j ≤ l.length ∧ m = l.length - j ∧ k = .int .i64 j ∧ Below w.heap.size w wr ∧ Hid (∀ i, i < j → l.getD i 0 = l'.getD i 0))
    case atStart => exact ⟨0, by omega, by omega, rfl, ext_refl _, fun i hi => by omega⟩
    case round =>
      obtain ⟨j, hj, hgk, rfl, hbel, Hall⟩ := hrel
      have Hk := Lib.hid hgk
      clear hgk
      have hl2 : j ≤ l'.length := by have := Hlen.out; omega
      by_cases hlt : j < l.length
      · have hlt2 : j < l'.length := by have := Hlen.out; omega
        obtain ⟨g, rfl, _, hg, _, k0⟩ := (Hv.out.ext hbel).at_ hlt
        obtain ⟨g', rfl, _, hg', _, m0⟩ := (Hv'.out.ext hbel).at_ hlt2
        obtain ⟨b, Hb⟩ : ∃ b, Hid (b = l.getD j 0) := ⟨_, rfl⟩
        obtain ⟨b', Hb'⟩ : ∃ b, Hid (b = l'.getD j 0) := ⟨_, rfl⟩
        rw [← Hb.out] at k0
        rw [← Hb'.out] at m0
        by_cases hbb : b = b'
        · have hbn : (b != b') = false := by simp [hbb]
          have Hbb := Lib.hid hbb
          clear hbb
          go_wp2_with fail
          go_quiet (fail)
          go_wp2_with fail
          go_roundg (l.length - (j+1))
          case rel =>
            refine ⟨j+1, by omega, rfl, by go_num, ext_trans hbel (ext_drewN' _ _), fun i hi => ?_⟩
            by_cases hij : i = j
            · subst hij; rw [← Hb.out, ← Hb'.out]; exact Hbb.out
            · exact Hall.out i (by omega)
          case measure => have := Hk.out; omega
        · have hbn : (b != b') = true := by simp [hbb]
          have Hbb := Lib.hid hbb
          clear hbb
          go_wp2_with fail
          go_quiet (fail)
          go_wp2_with fail
          go_ret
          refine ⟨?_, ext_trans hbel (ext_drewN' _ _)⟩
          have : ¬ l = l' := fun h => Hbb.out (by rw [Hb.out, Hb'.out, h])
          rw [decide_eq_false this]; rfl
      · have hjl : j = l.length := by omega
        subst hjl
        go_wp2
        go_ret
        refine ⟨?_, hbel⟩
        rw [decide_eq_true (eq_ints l l' Hlen.out Hall.out)]; rfl
  · have hne : ((l.length : Int) != (l'.length : Int)) = true := by simp; omega
    have Hlen := Lib.hid hlen
    clear hlen
    go_enter Try.func49, Try.ntmps49
    go_wp2
    go_ret
    refine ⟨?_, ext_refl _⟩
    rw [decide_eq_false (fun h => Hlen.out (by rw [h]))]; rfl
end Go.Proofs.Ytlcmhcfnmohgmaa
