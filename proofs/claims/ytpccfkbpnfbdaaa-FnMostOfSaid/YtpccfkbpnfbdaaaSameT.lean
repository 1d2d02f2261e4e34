/- The walks of laws.sameInts' kin: sameTable tells that two tables are the same. Condition: the tables can be read, and are the same. -/
import Derived.Test.YtpccfkbpnfbdaaaTabG
import Derived.Test.YtpccfkbpnfbdaaaLawInts
namespace Go.Proofs.Ytpccfkbpnfbdaaa
open Go.RowKit
set_option linter.unusedVariables false
set_option linter.unusedSimpArgs false
set_option maxRecDepth 100000 in
set_option maxHeartbeats 2000000 in
theorem laws_sameTable (n k : Nat) (v v' : Value) (hs hs' : List Value) (T : Tbl) (w : World) (hG : TabG w 0 n k v hs T) (hG' : TabG w 0 n k v' hs' T) :
    Calls Try.prog 26 #[v, v'] w fun e w' => e = .returned (.bool true) ∧ Below w.heap.size w w' := by
  have G := Lib.hid hG; have G' := Lib.hid hG'
  obtain ⟨a, c, rfl, hc, hc2⟩ := hG.open
  obtain ⟨a', c', rfl, hc', hc2'⟩ := hG'.open
  clear hG hG'
  go_enter Try.func26, Try.ntmps26
  go_wp2_with fail
  go_loopg [5] k (fun m ii wr => ∃ i : Nat, i ≤ k ∧ m = k - i ∧ ii = .int .i64 i ∧ Below w.heap.size w wr)
  case atStart => exact ⟨0, by omega, by omega, rfl, ext_refl _⟩
  case round =>
    obtain ⟨i, hi, hgk, rfl, hb⟩ := hrel
    have Hi := Lib.hid hgk
    clear hgk
    by_cases hlt : i < k
    · obtain ⟨g, ai, ci, hag, _, hg, _, hO, hci, hci2, hri⟩ := (G.out.ext hb).head hlt
      subst hag
      obtain ⟨g', ai', ci', hag, _, hg', _, hO', hci', hci2', hri'⟩ := (G'.out.ext hb).head hlt
      subst hag
      have R := Lib.hid hri; have R' := Lib.hid hri'
      clear hri hri'
      go_wp2_with fail
      go_region_held3 (fun w' => w'.cell? ⟨g, i, none⟩ = some (.slice ai n ci) ∧ w'.cell? ⟨g', i, none⟩ = some (.slice ai' n ci'))
        (first | exact ⟨hO, hO'⟩ | exact ⟨hO5, hO5'⟩)
        (first | (go_at_call 56
                  refine (laws_sameInts _ _ (rowOf n (T i)) (rowOf n (T i)) _ (R.out.ext (ext_drew (ext_refl wr))) (R'.out.ext (ext_drew (ext_refl wr)))).mono ?_
                  rintro e w5 ⟨rfl, hb5⟩
                  rw [decide_eq_true rfl]
                  have hbz := ext_trans (ext_drew (ext_refl wr)) hb5
                  have hO5 : w5.cell? ⟨g, i, none⟩ = some (.slice ai n ci) := (hbz.cell (by exact hg)).trans hO
                  have hO5' : w5.cell? ⟨g', i, none⟩ = some (.slice ai' n ci') := (hbz.cell (by exact hg')).trans hO'))
      go_wp2_with fail
      go_roundg (k - (i+1))
      case rel => exact ⟨i+1, by omega, rfl, by go_num, ext_trans hb hbz⟩
      case measure => have := Hi.out; omega
    · have hin : k = i := by omega
      subst hin
      go_wp2_with fail
      go_ret
      exact ⟨rfl, hb⟩
end Go.Proofs.Ytpccfkbpnfbdaaa
