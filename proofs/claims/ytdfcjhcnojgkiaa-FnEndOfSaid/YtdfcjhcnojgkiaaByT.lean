/- The walks of l10Taken and l10Free of spec. Conditions: the numbers can be read, the project is one, the begins are small. -/
import Derived.Test.YtdfcjhcnojgkiaaGrI
import Derived.Test.YtdfcjhcnojgkiaaApp
namespace Go.Proofs.Ytdfcjhcnojgkiaa
open Go.RowKit
set_option linter.unusedVariables false
set_option linter.unusedSimpArgs false
set_option maxRecDepth 100000 in
set_option maxHeartbeats 4000000 in
theorem spec_l10Taken (p : Pj) (v1 v2 v3 : Value) (l : List Int) (t : Int) (w : World) (h1 : Ints w 0 v1 p.lo) (h2 : Ints w 0 v2 p.af) (h3 : Ints w 0 v3 l) (hok : p.ok = true) (hs : Smalls p l) :
    Calls Try.prog 42 #[.agg #[v1, v2], v3, .int .i64 t] w fun e w' => e = .returned (.int .i64 (busyTo (lF l) p.L t p.lo.length)) ∧ Below w.heap.size w w' := by
  have H1 := Lib.hid h1; have H2 := Lib.hid h2; have H3 := Lib.hid h3
  obtain ⟨a1, c1, rfl, hn1, hc1, -⟩ := h1.open
  obtain ⟨a2, c2, rfl, hn2, hc2, -⟩ := h2.open
  obtain ⟨a3, c3, rfl, hn3, hc3, -⟩ := h3.open
  obtain ⟨hl6, haf, hLs, hAs⟩ := ok_upto hok
  have HLs := Lib.hid hLs; have Hs := Lib.hid hs
  obtain ⟨n, hn⟩ : ∃ n, Hid (n = p.lo.length) := ⟨_, rfl⟩
  have hn3' : Hid (l.length = n) := by rw [hn.out]; exact hs.1
  rw [← hn.out] at hl6 hn1 ⊢
  rw [hn3'.out] at hn3 ⊢
  clear h1 h2 h3 hok haf hLs hAs hs
  go_enter Try.func42, Try.ntmps42
  go_wp2_with fail
  obtain ⟨W, hW, A0, hs, E⟩ := one_box w #[.slice a1 n c1, .slice a2 p.af.length c2] 27
  rw [← hW.out]
  have hb := ext_refl W
  go_loopg [7, 8] n (fun m ss kk wx => ∃ k : Nat, k ≤ n ∧ m = n - k ∧ kk = .int .i64 k ∧ ss = .int .i64 (busyTo (lF l) p.L t k) ∧ Below W.heap.size W wx)
  case atStart => exact ⟨0, by omega, by omega, rfl, rfl, ext_refl _⟩
  case round =>
    rename World => wx
    obtain ⟨k, hk, hgk, rfl, rfl, hbx⟩ := hrel
    have Hk := Lib.hid hgk
    clear hgk
    have hbw := ext_trans hb hbx
    have A1 := A0.ext hbw
    have E1 := ext_trans E hbw
    have hsb := busy_in (lF l) p.L t k
    obtain ⟨s9, Hs9⟩ : ∃ s9, Hid (s9 = busyTo (lF l) p.L t k) := ⟨_, rfl⟩
    rw [← Hs9.out] at hsb ⊢
    by_cases hlk : k < n
    · obtain ⟨rc1, rz1⟩ := (A1).rules; have rl1 := (A1).lt
      have hkn : k < p.lo.length := by rw [← hn.out]; exact hlk
      have hkl : k < l.length := by rw [hn3'.out]; exact hlk
      obtain ⟨g1, ha1, _, hg1, _, cy⟩ := (H1.out.ext E1).at_ hkn
      first | subst ha1 | cases ha1
      obtain ⟨g3, ha3, _, hg3, _, cx⟩ := (H3.out.ext E1).at_ hkl
      subst ha3
      have hy := HLs.out k hkn
      have hx := Hs.out.2 k hkl
      obtain ⟨x, Hx⟩ : ∃ x, Hid (x = lF l k) := ⟨_, rfl⟩
      obtain ⟨y, Hy⟩ : ∃ y, Hid (y = p.L k) := ⟨_, rfl⟩
      rw [show l.getD k 0 = x from Hx.out.symm] at cx hx
      rw [show p.lo.getD k 0 = y from Hy.out.symm] at cy
      rw [← Hy.out] at hy
      have hnext : Hid (busyTo (lF l) p.L t (k+1) = if x ≠ -1 ∧ x ≤ t ∧ t < x + y then s9 + 1 else s9) := by rw [Hx.out, Hy.out, Hs9.out]; exact Lib.hid rfl
      clear hkn hkl
      have hw : IntKind.i64.wrap (x + y) = x + y := IntWalk.i64_in _ (by omega)
      by_cases h1 : x = -1
      · have hd0 : decide (x ≥ 0) = false := decide_eq_false (by omega)
        have Hnx : Hid (busyTo (lF l) p.L t (k+1) = s9) := by rw [hnext.out, if_neg (fun hh => hh.1 h1)]; exact Lib.hid rfl
        clear h1
        go_wp2_with fail
        go_quiet (fail)
        go_wp2_with fail
        go_roundg (n - (k+1))
        case rel => exact ⟨k+1, by omega, rfl, by go_num, by rw [Hnx.out], ext_trans hbx (ext_drewN3 _ _)⟩
        case measure => have := Hk.out; omega
      · have hd0 : decide (x ≥ 0) = true := decide_eq_true (by omega)
        by_cases h2 : x ≤ t
        · have hd1 : decide (x ≤ t) = true := decide_eq_true h2
          by_cases h3 : t < x + y
          · have hd2 : decide (t < x + y) = true := decide_eq_true h3
            have Hnx : Hid (busyTo (lF l) p.L t (k+1) = s9 + 1) := by rw [hnext.out, if_pos ⟨h1, h2, h3⟩]; exact Lib.hid rfl
            clear h1
            go_wp2_with fail
            go_quiet (fail)
            go_wp2_with fail
            go_roundg (n - (k+1))
            case rel => exact ⟨k+1, by omega, rfl, by go_num, by rw [Hnx.out], ext_trans hbx (ext_drewN3 _ _)⟩
            case measure => have := Hk.out; omega
          · have hd2 : decide (t < x + y) = false := decide_eq_false h3
            have Hnx : Hid (busyTo (lF l) p.L t (k+1) = s9) := by rw [hnext.out, if_neg (fun hh => h3 hh.2.2)]; exact Lib.hid rfl
            clear h1
            go_wp2_with fail
            go_quiet (fail)
            go_wp2_with fail
            go_roundg (n - (k+1))
            case rel => exact ⟨k+1, by omega, rfl, by go_num, by rw [Hnx.out], ext_trans hbx (ext_drewN3 _ _)⟩
            case measure => have := Hk.out; omega
        · have hd1 : decide (x ≤ t) = false := decide_eq_false h2
          have Hnx : Hid (busyTo (lF l) p.L t (k+1) = s9) := by rw [hnext.out, if_neg (fun hh => h2 hh.2.1)]; exact Lib.hid rfl
          clear h1
          go_wp2_with fail
          go_quiet (fail)
          go_wp2_with fail
          go_roundg (n - (k+1))
          case rel => exact ⟨k+1, by omega, rfl, by go_num, by rw [Hnx.out], ext_trans hbx (ext_drewN3 _ _)⟩
          case measure => have := Hk.out; omega
    · have hkn : k = n := by omega
      subst hkn
      have hb := hbw
      clear hbw hbx A1
      go_wp2_with fail
      go_ret
      exact ⟨by rw [← Hs9.out]; rfl, E1⟩
set_option maxRecDepth 100000 in
set_option maxHeartbeats 8000000 in
theorem spec_l10Free (p : Pj) (v1 v2 v3 : Value) (l : List Int) (h : Int) (t : Nat) (s : Int) (w : World) (h1 : Ints w 0 v1 p.lo) (h2 : Ints w 0 v2 p.af) (h3 : Ints w 0 v3 l) (hok : p.ok = true) (hs : Smalls p l) (ht : t < p.lo.length) (hs0 : -1000 ≤ s ∧ s ≤ 1000000) :
    Calls Try.prog 59 #[.agg #[v1, v2], .int .i64 h, v3, .int .i64 t, .int .i64 s] w fun e w' => e = .returned (.bool (p.free l h t s)) ∧ Below w.heap.size w w' := by
  have H1 := Lib.hid h1; have H2 := Lib.hid h2; have H3 := Lib.hid h3
  obtain ⟨a1, c1, rfl, hn1, hc1, -⟩ := h1.open
  obtain ⟨a2, c2, rfl, hn2, hc2, -⟩ := h2.open
  obtain ⟨a3, c3, rfl, hn3, hc3, -⟩ := h3.open
  obtain ⟨hl6, haf, hLs, hAs⟩ := ok_upto hok
  have HLs := Lib.hid hLs; have Hs := Lib.hid hs
  obtain ⟨n, hn⟩ : ∃ n, Hid (n = p.lo.length) := ⟨_, rfl⟩
  have hn3' : Hid (l.length = n) := by rw [hn.out]; exact hs.1
  have hyt := hLs t ht
  obtain ⟨yt, Hyt⟩ : ∃ y, Hid (y = p.L t) := ⟨_, rfl⟩
  rw [← Hyt.out] at hyt
  have Ht := Lib.hid ht
  rw [← hn.out] at hl6 hn1 ht ⊢
  rw [hn3'.out] at hn3 ⊢
  clear h1 h2 h3 hok haf hLs hAs hs
  have hfree : Hid (p.free l h t s = true ↔ ∀ d : Nat, (d : Int) < yt → busyTo (lF l) p.L (s + d) n < h) := by rw [Hyt.out, hn.out]; exact Lib.hid free_iff
  go_enter Try.func59, Try.ntmps59
  go_wp2_with fail
  obtain ⟨W, hW, A0, hs, E⟩ := one_box w #[.slice a1 n c1, .slice a2 p.af.length c2] 27
  rw [← hW.out]
  go_loopg [11] yt.toNat (fun m ss wr => ∃ d : Nat, (d : Int) ≤ yt ∧ m = yt.toNat - d ∧ ss = .int .i64 (s + d) ∧ Below W.heap.size W wr ∧ Hid (∀ c : Nat, c < d → busyTo (lF l) p.L (s + c) n < h))
  case atStart => exact ⟨0, by omega, by omega, by simp, ext_refl _, fun c hc => by omega⟩
  case round =>
    rename World => wr
    obtain ⟨d, hd, hgk, rfl, hb, Hall⟩ := hrel
    have Hd := Lib.hid hgk
    clear hgk
    have A9 := A0.ext hb
    have E9 := ext_trans E hb
    obtain ⟨rc0, rz0⟩ := (A9).rules; have rl0 := (A9).lt
    obtain ⟨gt, hat, _, hgt, _, cyt⟩ := (H1.out.ext E9).at_ Ht.out
    subst hat
    rw [show p.lo.getD t 0 = yt from Hyt.out.symm] at cyt
    have hwt : IntKind.i64.wrap (s + yt) = s + yt := IntWalk.i64_in _ (by omega)
    by_cases hlt : (d : Int) < yt
    · have hlt2 : s + (d : Int) < s + yt := by omega
      go_wp2_with fail
      obtain ⟨q, Hq⟩ : ∃ q, Hid (q = s + (d : Int)) := ⟨_, rfl⟩
      have hq1 : -1000 ≤ q ∧ q ≤ 1000100 := by rw [Hq.out]; omega
      rw [← Hq.out]
      clear rc0 rz0 rl0 A9 E9 cyt hgt hlt2
      go_loopg [12, 13] n (fun m ss kk wx => ∃ k : Nat, k ≤ n ∧ m = n - k ∧ kk = .int .i64 k ∧ ss = .int .i64 (busyTo (lF l) p.L q k) ∧ Below wr.heap.size wr wx)
      case atStart => exact ⟨0, by omega, by omega, rfl, rfl, ext_refl _⟩
      case round =>
        rename World => wx
        obtain ⟨k, hk, hgk, rfl, rfl, hbx⟩ := hrel
        have Hk := Lib.hid hgk
        clear hgk
        have hbw := ext_trans hb hbx
        have A1 := A0.ext hbw
        have E1 := ext_trans E hbw
        have hsb := busy_in (lF l) p.L q k
        obtain ⟨s9, Hs9⟩ : ∃ s9, Hid (s9 = busyTo (lF l) p.L q k) := ⟨_, rfl⟩
        rw [← Hs9.out] at hsb ⊢
        by_cases hlk : k < n
        · obtain ⟨rc1, rz1⟩ := (A1).rules; have rl1 := (A1).lt
          have hkn : k < p.lo.length := by rw [← hn.out]; exact hlk
          have hkl : k < l.length := by rw [hn3'.out]; exact hlk
          obtain ⟨g1, ha1, _, hg1, _, cy⟩ := (H1.out.ext E1).at_ hkn
          first | subst ha1 | cases ha1
          obtain ⟨g3, ha3, _, hg3, _, cx⟩ := (H3.out.ext E1).at_ hkl
          subst ha3
          have hy := HLs.out k hkn
          have hx := Hs.out.2 k hkl
          obtain ⟨x, Hx⟩ : ∃ x, Hid (x = lF l k) := ⟨_, rfl⟩
          obtain ⟨y, Hy⟩ : ∃ y, Hid (y = p.L k) := ⟨_, rfl⟩
          rw [show l.getD k 0 = x from Hx.out.symm] at cx hx
          rw [show p.lo.getD k 0 = y from Hy.out.symm] at cy
          rw [← Hy.out] at hy
          have hnext : Hid (busyTo (lF l) p.L q (k+1) = if x ≠ -1 ∧ x ≤ q ∧ q < x + y then s9 + 1 else s9) := by rw [Hx.out, Hy.out, Hs9.out]; exact Lib.hid rfl
          clear hkn hkl
          have hw : IntKind.i64.wrap (x + y) = x + y := IntWalk.i64_in _ (by omega)
          by_cases h1 : x = -1
          · have hd0 : decide (x ≥ 0) = false := decide_eq_false (by omega)
            have Hnx : Hid (busyTo (lF l) p.L q (k+1) = s9) := by rw [hnext.out, if_neg (fun hh => hh.1 h1)]; exact Lib.hid rfl
            clear h1
            go_wp2_with fail
            go_quiet (fail)
            go_wp2_with fail
            go_roundg (n - (k+1))
            case rel => exact ⟨k+1, by omega, rfl, by go_num, by rw [Hnx.out], ext_trans hbx (ext_drewN3 _ _)⟩
            case measure => have := Hk.out; omega
          · have hd0 : decide (x ≥ 0) = true := decide_eq_true (by omega)
            by_cases h2 : x ≤ q
            · have hd1 : decide (x ≤ q) = true := decide_eq_true h2
              by_cases h3 : q < x + y
              · have hd2 : decide (q < x + y) = true := decide_eq_true h3
                have Hnx : Hid (busyTo (lF l) p.L q (k+1) = s9 + 1) := by rw [hnext.out, if_pos ⟨h1, h2, h3⟩]; exact Lib.hid rfl
                clear h1
                go_wp2_with fail
                go_quiet (fail)
                go_wp2_with fail
                go_roundg (n - (k+1))
                case rel => exact ⟨k+1, by omega, rfl, by go_num, by rw [Hnx.out], ext_trans hbx (ext_drewN3 _ _)⟩
                case measure => have := Hk.out; omega
              · have hd2 : decide (q < x + y) = false := decide_eq_false h3
                have Hnx : Hid (busyTo (lF l) p.L q (k+1) = s9) := by rw [hnext.out, if_neg (fun hh => h3 hh.2.2)]; exact Lib.hid rfl
                clear h1
                go_wp2_with fail
                go_quiet (fail)
                go_wp2_with fail
                go_roundg (n - (k+1))
                case rel => exact ⟨k+1, by omega, rfl, by go_num, by rw [Hnx.out], ext_trans hbx (ext_drewN3 _ _)⟩
                case measure => have := Hk.out; omega
            · have hd1 : decide (x ≤ q) = false := decide_eq_false h2
              have Hnx : Hid (busyTo (lF l) p.L q (k+1) = s9) := by rw [hnext.out, if_neg (fun hh => h2 hh.2.1)]; exact Lib.hid rfl
              clear h1
              go_wp2_with fail
              go_quiet (fail)
              go_wp2_with fail
              go_roundg (n - (k+1))
              case rel => exact ⟨k+1, by omega, rfl, by go_num, by rw [Hnx.out], ext_trans hbx (ext_drewN3 _ _)⟩
              case measure => have := Hk.out; omega
        · have hkn : k = n := by omega
          subst hkn
          have hb := hbw
          clear hbw hbx A1
          by_cases hbh : h ≤ s9
          · have hF : Hid (p.free l h t s = false) := by
              refine Lib.hid (free_not (d := d) (by rw [← Hyt.out]; exact hlt) ?_)
              rw [← hn.out, ← Hq.out, ← Hs9.out]; exact hbh
            have hd1 : decide (h ≤ s9) = true := decide_eq_true hbh
            go_wp2_with fail
            go_ret
            exact ⟨by rw [hF.out]; rfl, E1⟩
          · have hd1 : decide (h ≤ s9) = false := decide_eq_false hbh
            have hd2 : s9 < h := by omega
            have hw2 : IntKind.i64.wrap (q + 1) = s + ((d+1 : Nat) : Int) := by rw [IntWalk.i64_in _ (by omega), Hq.out]; omega
            go_wp2_with fail
            go_roundg (yt.toNat - (d+1))
            case rel =>
              refine ⟨d+1, by omega, rfl, by simp, hb, Lib.hid fun c hc => ?_⟩
              by_cases hcd : c = d
              · subst hcd; rw [← Hq.out, ← Hs9.out]; exact hd2
              · exact Hall.out c (by omega)
            case measure => have := Hd.out; omega
    · have hlt2 : ¬ (s + (d : Int) < s + yt) := by omega
      have hF : Hid (p.free l h t s = true) := Lib.hid (hfree.out.2 fun c hc => Hall.out c (by omega))
      go_wp2_with fail
      go_ret
      exact ⟨by rw [hF.out]; rfl, E9⟩
end Go.Proofs.Ytdfcjhcnojgkiaa
