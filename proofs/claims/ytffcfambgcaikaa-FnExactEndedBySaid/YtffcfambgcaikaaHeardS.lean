/- The walks of HeardOk, l14State, StateAfter and VerdictOf of spec. Conditions: the bounds and the happenings can be read, at most two million. -/
import Derived.Test.YtffcfambgcaikaaHeardMath
import Derived.Test.YtffcfambgcaikaaGoesS
namespace Go.Proofs.Ytffcfambgcaikaa
open Go.RowKit
set_option linter.unusedVariables false
set_option linter.unusedSimpArgs false
theorem heard_no {p : Pl} {l : List Hp} {k : Nat} (hk : k < l.length) (h : hpOk (wrap64 (p.pts - 1)) l k = false) : p.heard l = false := by
  have : (List.range l.length).all (hpOk (wrap64 (p.pts - 1)) l) = false := by
    rw [List.all_eq_false]
    exact ⟨k, by simpa using hk, by rw [h]; simp⟩
  unfold Pl.heard; rw [this]; rfl
theorem heard_all {p : Pl} {l : List Hp} (h : ∀ k, k < l.length → hpOk (wrap64 (p.pts - 1)) l k = true) : p.heard l = p.fits := by
  have : (List.range l.length).all (hpOk (wrap64 (p.pts - 1)) l) = true := by
    rw [List.all_eq_true]
    exact fun k hk => h k (by simpa using hk)
  unfold Pl.heard; rw [this, Bool.true_and]
theorem hpOk_mk {m : Int} {l : List Hp} {k : Nat} (h1 : inB (hA l k).pt 1 m = true) (h2 : inB (hA l k).tm 0 2000 = true) (h3 : k = 0 ∨ (hA l (k-1)).tm ≤ (hA l k).tm) (h4 : ∀ j, j < k → (hA l j).pt ≠ (hA l k).pt) : hpOk m l k = true := by
  simp only [hpOk, h1, h2, Bool.true_and, Bool.and_eq_true, decide_eq_true_eq, List.all_eq_true, List.mem_range]
  exact ⟨h3, h4⟩
theorem hpOk_no4 {m : Int} {l : List Hp} {k j : Nat} (hj : j < k) (h : (hA l j).pt = (hA l k).pt) : hpOk m l k = false := by
  cases hc : hpOk m l k
  · rfl
  · simp only [hpOk, Bool.and_eq_true, decide_eq_true_eq, List.all_eq_true, List.mem_range] at hc
    exact absurd h (hc.2.2.2 j hj)
theorem hpOk_no3 {m : Int} {l : List Hp} {k : Nat} (hk : 0 < k) (h : (hA l k).tm < (hA l (k-1)).tm) : hpOk m l k = false := by
  cases hc : hpOk m l k
  · rfl
  · simp only [hpOk, Bool.and_eq_true, decide_eq_true_eq, List.all_eq_true, List.mem_range] at hc
    have := hc.2.2.1; omega
theorem hpOk_no2 {m : Int} {l : List Hp} {k : Nat} (h : inB (hA l k).tm 0 2000 = false) : hpOk m l k = false := by simp [hpOk, h]
theorem hpOk_no1 {m : Int} {l : List Hp} {k : Nat} (h : inB (hA l k).pt 1 m = false) : hpOk m l k = false := by simp [hpOk, h]
theorem ext_drewH (w : World) (n : Nat) : Below w.heap.size w (w.drewN n) := ⟨rfl, rfl, rfl, Nat.le_refl _, fun _ _ => rfl⟩
theorem Hps.atA {w : World} {base n cap : Nat} {a : Option Addr} {l : List Hp} (h : Hps w base (.slice a n cap) l) {j : Nat} (hj : j < l.length) :
    ∃ g, a = some ⟨g, 0, none⟩ ∧ g < w.heap.size ∧ w.cell? ⟨g, j * 2, none⟩ = some (.int .i64 (hA l j).pt) ∧ w.cell? ⟨g, j * 2 + 1, none⟩ = some (.int .i64 (hA l j).tm) := by
  obtain ⟨g, h1, _, h3, _, h5, h6⟩ := h.at_ hj
  exact ⟨g, h1, h3, h5, h6⟩
set_option maxRecDepth 100000 in
set_option maxHeartbeats 8000000 in
theorem spec_HeardOk (p : Pl) (bs lv : Value) (l : List Hp) (w : World) (hv : Bds w 0 bs p.bs) (hh : Hps w 0 lv l) (hlen : l.length ≤ 2000000) :
    Calls Try.prog 36 #[.agg #[.int .i64 p.pts, bs], lv] w fun e w' => e = .returned (.bool (p.heard l)) ∧ Below w.heap.size w w' := by
  have V := Lib.hid hv
  have H := Lib.hid hh
  obtain ⟨a, c, rfl, hn, hc, -⟩ := hv.open
  obtain ⟨al, cl, rfl, hnl, hcl, -⟩ := hh.open
  obtain ⟨P0, hP0⟩ : ∃ P, Hid (P = p.pts) := ⟨_, rfl⟩
  obtain ⟨m, hm1⟩ : ∃ m, IntKind.i64.wrap (P0 - 1) = m := ⟨_, rfl⟩
  have hm2 : wrap64 (P0 - 1) = m := (IntWalk.i64_left _).symm.trans hm1
  have Hm : Hid (wrap64 (p.pts - 1) = m) := by rw [← hP0.out]; exact Lib.hid hm2
  obtain ⟨N, hN⟩ : ∃ N, Hid (N = l.length) := ⟨_, rfl⟩
  rw [← hN.out] at hlen hnl
  clear hv hh
  rw [← hP0.out, ← hN.out]
  go_enter Try.func36, Try.ntmps36
  go_wp2_with fail
  obtain ⟨W, hW, A0, hs, E⟩ := one_box w #[.int .i64 P0, .slice a p.bs.length c] 25
  rw [← hW.out]
  go_loopg [5] N (fun z kk wr => ∃ k : Nat, k ≤ N ∧ z = N - k ∧ kk = .int .i64 k ∧ Below W.heap.size W wr ∧ Hid (∀ i, i < k → hpOk m l i = true))
  case atStart => exact ⟨0, by omega, by omega, rfl, ext_refl _, Lib.hid fun i hi => by omega⟩
  case round =>
    obtain ⟨k, hk, hgk, rfl, hb, Hall⟩ := hrel
    have Hk := Lib.hid hgk
    clear hgk
    have A1 := A0.ext hb
    have E1 := ext_trans E hb
    obtain ⟨rc0, rz0⟩ := (A1).rules; have rl0 := (A1).lt
    by_cases hlk : k < N
    · obtain ⟨g, ha, hg, cx, cy⟩ := (H.out.ext E1).atA (j := k) (by rw [← hN.out]; exact hlk)
      subst ha
      obtain ⟨x, hx⟩ : ∃ x, Hid (x = (hA l k).pt) := ⟨_, rfl⟩
      obtain ⟨y, hy⟩ : ∃ x, Hid (x = (hA l k).tm) := ⟨_, rfl⟩
      rw [← hx.out] at cx
      rw [← hy.out] at cy
      cases hc1 : inB x 1 m
      · have Hf : Hid (p.heard l = false) := Lib.hid (heard_no (by rw [← hN.out]; exact hlk) (hpOk_no1 (by rw [Hm.out, ← hx.out]; exact hc1)))
        go_wp2_with fail
        go_quiet (first | (go_at_call 67; refine Calls.quiet_of_same ((spec_l1In _ _ _ _).mono fun e w' h => ⟨(by rw [h.1, hc1]), h.2.symm⟩)))
        go_wp2_with fail
        go_ret
        exact ⟨by rw [Hf.out]; rfl, ext_trans E1 (ext_drewH _ _)⟩
      cases hc2 : inB y 0 2000
      · have Hf : Hid (p.heard l = false) := Lib.hid (heard_no (by rw [← hN.out]; exact hlk) (hpOk_no2 (by rw [← hy.out]; exact hc2)))
        go_wp2_with fail
        go_quiet (first | (go_at_call 67; refine Calls.quiet_of_same ((spec_l1In _ _ _ _).mono fun e w' h => ⟨(by first | rw [h.1, hc1] | rw [h.1, hc2]), h.2.symm⟩)))
        go_wp2_with fail
        go_ret
        exact ⟨by rw [Hf.out]; rfl, ext_trans E1 (ext_drewH _ _)⟩
      have Hc1 : Hid (inB (hA l k).pt 1 m = true) := by rw [← hx.out]; exact Lib.hid hc1
      have Hc2 : Hid (inB (hA l k).tm 0 2000 = true) := by rw [← hy.out]; exact Lib.hid hc2
      have step : Hid (∀ (j : Nat) (wx : World), Below W.heap.size W wx → j < N → ∃ z : Int, Hid (z = (hA l j).pt) ∧ g < wx.heap.size ∧ wx.cell? ⟨g, j * 2, none⟩ = some (.int .i64 z)) := Lib.hid fun j wx hbx hj => by
        obtain ⟨g', ha, hg, cz, -⟩ := (H.out.ext (ext_trans E hbx)).atA (j := j) (by rw [← hN.out]; exact hj)
        cases ha
        exact ⟨_, Lib.hid rfl, hg, cz⟩
      by_cases hk0 : k = 0
      · have hkd : decide (0 < k) = false := decide_eq_false (by omega)
        have Hk0 : Hid (k = 0 ∨ (hA l (k-1)).tm ≤ (hA l k).tm) := Lib.hid (.inl hk0)
        clear hk0
        go_wp2_with fail
        go_quiet (first | (go_at_call 67; refine Calls.quiet_of_same ((spec_l1In _ _ _ _).mono fun e w' h => ⟨(by first | rw [h.1, hc1] | rw [h.1, hc2]), h.2.symm⟩)))
        rename_i nq
        have hbq := ext_trans hb (ext_drewH wr nq)
        obtain ⟨wq, hwq⟩ : ∃ x, Hid (x = wr.drewN nq) := ⟨_, rfl⟩
        rw [← hwq.out] at hbq ⊢
        clear cx cy rc0 rz0 rl0 hg hc1 hc2 hkd
        go_wp2_with fail
        go_loopg [6] k (fun z jj wx => ∃ j : Nat, j ≤ k ∧ z = k - j ∧ jj = .int .i64 j ∧ Below W.heap.size W wx ∧ Hid (∀ i, i < j → (hA l i).pt ≠ (hA l k).pt))
        case atStart => exact ⟨0, by omega, by omega, rfl, hbq, Lib.hid fun i hi => by omega⟩
        case round =>
          rename World => wx
          obtain ⟨j, hj, hgj, rfl, hbx, Hne⟩ := hrel
          have Hj := Lib.hid hgj
          clear hgj
          by_cases hjk : j < k
          · have hjN : j < N := by omega
            obtain ⟨u, hu, hgx, cu⟩ := step.out j wx hbx hjN
            obtain ⟨v, hv, -, cv⟩ := step.out k wx hbx hlk
            by_cases huv : u = v
            · have hub : (u == v) = true := by simp [huv]
              have Hf : Hid (p.heard l = false) := Lib.hid (heard_no (by rw [← hN.out]; exact hlk) (hpOk_no4 hjk (by rw [← hu.out, ← hv.out]; exact huv)))
              clear huv
              go_wp2_with fail
              go_quiet (fail)
              go_wp2_with fail
              go_ret
              exact ⟨by rw [Hf.out]; rfl, ext_trans (ext_trans E hbx) (ext_drewH _ _)⟩
            · have hub : (u == v) = false := beq_false_of_ne huv
              have Huv : Hid ((hA l j).pt ≠ (hA l k).pt) := by rw [← hu.out, ← hv.out]; exact Lib.hid huv
              clear huv
              go_wp2_with fail
              go_quiet (fail)
              go_wp2_with fail
              go_roundg (k - (j+1))
              case rel =>
                refine ⟨j+1, by omega, rfl, by go_num, ext_trans hbx (ext_drewH _ _), Lib.hid fun i hi => ?_⟩
                by_cases e : i = j
                · subst e; exact Huv.out
                · exact Hne.out i (by omega)
              case measure => have := Hj.out; omega
          · have hjk2 : j = k := by omega
            have Hok : Hid (hpOk m l k = true) := Lib.hid (hpOk_mk Hc1.out Hc2.out Hk0.out fun i hi => Hne.out i (by omega))
            go_wp2_with fail
            go_roundg (N - (k+1))
            case rel =>
              refine ⟨k+1, by omega, rfl, by go_num, hbx, Lib.hid fun i hi => ?_⟩
              by_cases e : i = k
              · subst e; exact Hok.out
              · exact Hall.out i (by omega)
            case measure => have := Hk.out; omega
      · have hkd : decide (0 < k) = true := decide_eq_true (by omega)
        obtain ⟨g', ha, hg', -, cz⟩ := (H.out.ext E1).atA (j := k - 1) (by rw [← hN.out]; omega)
        cases ha
        have hk1 : (k : Int) - 1 = ((k - 1 : Nat) : Int) := by omega
        obtain ⟨z, hz⟩ : ∃ x, Hid (x = (hA l (k-1)).tm) := ⟨_, rfl⟩
        rw [← hz.out] at cz
        have hk1N : k - 1 < N := by omega
        have hk1i : 0 ≤ (k : Int) - 1 := by omega
        have hk1M : (k : Int) - 1 < (N : Int) := by omega
        have hk1n : ((k : Int) - 1).toNat = k - 1 := by omega
        by_cases hyz : y < z
        · have hyd : decide (y < z) = true := decide_eq_true hyz
          have Hf : Hid (p.heard l = false) := Lib.hid (heard_no (by rw [← hN.out]; exact hlk) (hpOk_no3 (by omega) (by rw [← hy.out, ← hz.out]; exact hyz)))
          go_wp2_with fail
          go_quiet (first | (go_at_call 67; refine Calls.quiet_of_same ((spec_l1In _ _ _ _).mono fun e w' h => ⟨(by first | rw [h.1, hc1] | rw [h.1, hc2]), h.2.symm⟩)))
          go_wp2_with fail
          go_ret
          exact ⟨by rw [Hf.out]; rfl, ext_trans E1 (ext_drewH _ _)⟩
        · have hyd : decide (y < z) = false := decide_eq_false hyz
          have Hk0 : Hid (k = 0 ∨ (hA l (k-1)).tm ≤ (hA l k).tm) := Lib.hid (.inr (by rw [← hy.out, ← hz.out]; omega))
          clear hk0
          go_wp2_with fail
          go_quiet (first | (go_at_call 67; refine Calls.quiet_of_same ((spec_l1In _ _ _ _).mono fun e w' h => ⟨(by first | rw [h.1, hc1] | rw [h.1, hc2]), h.2.symm⟩)))
          rename_i nq
          have hbq := ext_trans hb (ext_drewH wr nq)
          obtain ⟨wq, hwq⟩ : ∃ x, Hid (x = wr.drewN nq) := ⟨_, rfl⟩
          rw [← hwq.out] at hbq ⊢
          clear cx cy cz rc0 rz0 rl0 hg hg' hc1 hc2 hkd hyd hyz hk1 hk1N hk1i hk1M hk1n
          go_wp2_with fail
          go_loopg [6] k (fun z jj wx => ∃ j : Nat, j ≤ k ∧ z = k - j ∧ jj = .int .i64 j ∧ Below W.heap.size W wx ∧ Hid (∀ i, i < j → (hA l i).pt ≠ (hA l k).pt))
          case atStart => exact ⟨0, by omega, by omega, rfl, hbq, Lib.hid fun i hi => by omega⟩
          case round =>
            rename World => wx
            obtain ⟨j, hj, hgj, rfl, hbx, Hne⟩ := hrel
            have Hj := Lib.hid hgj
            clear hgj
            by_cases hjk : j < k
            · have hjN : j < N := by omega
              obtain ⟨u, hu, hgx, cu⟩ := step.out j wx hbx hjN
              obtain ⟨v, hv, -, cv⟩ := step.out k wx hbx hlk
              by_cases huv : u = v
              · have hub : (u == v) = true := by simp [huv]
                have Hf : Hid (p.heard l = false) := Lib.hid (heard_no (by rw [← hN.out]; exact hlk) (hpOk_no4 hjk (by rw [← hu.out, ← hv.out]; exact huv)))
                clear huv
                go_wp2_with fail
                go_quiet (fail)
                go_wp2_with fail
                go_ret
                exact ⟨by rw [Hf.out]; rfl, ext_trans (ext_trans E hbx) (ext_drewH _ _)⟩
              · have hub : (u == v) = false := beq_false_of_ne huv
                have Huv : Hid ((hA l j).pt ≠ (hA l k).pt) := by rw [← hu.out, ← hv.out]; exact Lib.hid huv
                clear huv
                go_wp2_with fail
                go_quiet (fail)
                go_wp2_with fail
                go_roundg (k - (j+1))
                case rel =>
                  refine ⟨j+1, by omega, rfl, by go_num, ext_trans hbx (ext_drewH _ _), Lib.hid fun i hi => ?_⟩
                  by_cases e : i = j
                  · subst e; exact Huv.out
                  · exact Hne.out i (by omega)
                case measure => have := Hj.out; omega
            · have hjk2 : j = k := by omega
              have Hok : Hid (hpOk m l k = true) := Lib.hid (hpOk_mk Hc1.out Hc2.out Hk0.out fun i hi => Hne.out i (by omega))
              go_wp2_with fail
              go_roundg (N - (k+1))
              case rel =>
                refine ⟨k+1, by omega, rfl, by go_num, hbx, Lib.hid fun i hi => ?_⟩
                by_cases e : i = k
                · subst e; exact Hok.out
                · exact Hall.out i (by omega)
              case measure => have := Hk.out; omega
    · have hkN : k = N := by omega
      have Hh : Hid (p.heard l = p.fits) := Lib.hid (heard_all fun i hi => by rw [Hm.out]; exact Hall.out i (by rw [hkN, hN.out]; exact hi))
      go_wp2_with fail
      refine ((show Calls Try.prog 68 #[.agg #[.int .i64 P0, .slice a p.bs.length c]] wr (fun e w' => e = .returned (.bool p.fits) ∧ Below wr.heap.size wr w') by rw [hP0.out]; exact spec_FitsOk p _ _ (V.out.ext E1))).mono ?_
      rintro e w9 ⟨rfl, hb9⟩
      go_wp2_with fail
      go_ret
      exact ⟨by rw [Hh.out]; rfl, ext_trans E1 hb9⟩
end Go.Proofs.Ytffcfambgcaikaa
