/- The walks of WaitUntil and NextOf of spec. Conditions: the bounds and the happenings can be read, at most two million. -/
import Derived.Test.YtffcfambgcaikaaVerdS
namespace Go.Proofs.Ytffcfambgcaikaa
open Go.RowKit
set_option linter.unusedVariables false
set_option linter.unusedSimpArgs false
theorem last_ok (p : Pl) (l : List Hp) : (p.heard l && inB (lastT l) (lastT l) 2000) = p.heard l := by
  cases h : p.heard l
  · rfl
  · have := last_in h
    rw [Bool.true_and]
    exact (inB_iff _ _ _).2 ⟨Int.le_refl _, this.2⟩
theorem wait_no1 {p : Pl} {l : List Hp} (h : p.heard l = false) : p.waitU l = -1 := by unfold Pl.waitU; rw [h]; rfl
theorem wait_no2 {p : Pl} {l : List Hp} (h : p.goes (lastT l) (doneL p.n l) = false) : p.waitU l = -1 := by unfold Pl.waitU; rw [h, Bool.and_false]; rfl
theorem wait_yes {p : Pl} {l : List Hp} (h : p.heard l = true) (h2 : p.goes (lastT l) (doneL p.n l) = true) : p.waitU l = min (p.dead l) 2000 := by unfold Pl.waitU; rw [h, h2]; rfl
set_option maxRecDepth 100000 in
set_option maxHeartbeats 4000000 in
theorem spec_WaitUntil (p : Pl) (bs lv : Value) (l : List Hp) (w : World) (hv : Bds w 0 bs p.bs) (hh : Hps w 0 lv l) (hlen : l.length ≤ 2000000) :
    Calls Try.prog 38 #[.agg #[.int .i64 p.pts, bs], lv] w fun e w' => e = .returned (.int .i64 (p.waitU l)) ∧ Below w.heap.size w w' := by
  have V := Lib.hid hv
  have H := Lib.hid hh
  obtain ⟨a, c, rfl, hn, hc, -⟩ := hv.open
  obtain ⟨al, cl, rfl, hnl, hcl, -⟩ := hh.open
  obtain ⟨N, hN⟩ : ∃ N, Hid (N = l.length) := ⟨_, rfl⟩
  rw [← hN.out] at hnl hlen ⊢
  clear hv hh
  go_enter Try.func38, Try.ntmps38
  go_upto_if 10 with fail
  obtain ⟨W, hW, A0, hs, E⟩ := one_box w #[.int .i64 p.pts, .slice a p.bs.length c] 25
  rw [← hW.out]
  obtain ⟨y, hy⟩ : ∃ x, Hid (x = lastT l) := ⟨_, rfl⟩
  go_cut [5] (fun v5 wx => v5 = .int .i64 y ∧ wx = W)
  case first =>
    by_cases hN0 : 0 < N
    · have hN0i : (0 : Int) < (N : Int) := by omega
      obtain ⟨g, ha, hg, -, cy⟩ := (H.out.ext E).atA (j := N - 1) (by rw [← hN.out]; omega)
      subst ha
      rw [hN.out, ← last_at l (by rw [← hN.out]; exact hN0), ← hy.out, ← hN.out] at cy
      have hk1 : (N : Int) - 1 = ((N - 1 : Nat) : Int) := by omega
      have hk1N : N - 1 < N := by omega
      have hk1i : 0 ≤ (N : Int) - 1 := by omega
      have hk1M : (N : Int) - 1 < (N : Int) := by omega
      have hk1n : ((N : Int) - 1).toNat = N - 1 := by omega
      go_wp2_with fail
      go_meet
      exact ⟨rfl, rfl⟩
    · have hN0i : ¬ (0 : Int) < (N : Int) := by omega
      have hy0 : y = 0 := by rw [hy.out]; exact last_zero l (by rw [← hN.out]; omega)
      go_wp2_with fail
      go_meet
      exact ⟨by rw [hy0], rfl⟩
  rename World => wt
  obtain ⟨rfl, rfl⟩ := hcut
  obtain ⟨rc0, rz0⟩ := (A0).rules; have rl0 := (A0).lt
  go_wp2_with fail
  refine (spec_StateAfter p _ _ l y _ (V.out.ext E) (show Hps _ 0 (.slice al N cl) l by rw [hN.out]; exact H.out.ext E) (by rw [← hN.out]; exact hlen)).mono ?_
  rintro e w1 ⟨x, v, d, rfl, hvd, hxd, hb1⟩
  rw [show (p.heard l && inB y (lastT l) 2000) = p.heard l by rw [hy.out]; exact last_ok p l]
  have Hxd : Hid (p.heard l = true → x = lastT l ∧ d = doneL p.n l) := by
    rw [hy.out, last_ok] at hxd; exact Lib.hid hxd
  obtain ⟨av, cv, rfl, -⟩ := hvd.open
  have A0 := A0.ext hb1
  have E := ext_trans E hb1
  have D := Lib.hid hvd
  clear hvd hxd hb1 rc0 rz0 rl0
  go_upto_region 5 with fail
  obtain ⟨w2, hw2, S0, hs2, E2⟩ := one_box w1 #[.int .i64 x, .slice av d.length cv] 43
  rw [← hw2.out]
  have A0 := A0.ext E2
  have D := Lib.hid (D.out.ext E2)
  have E := ext_trans E E2
  obtain ⟨rc0, rz0⟩ := (A0).rules; have rl0 := (A0).lt
  obtain ⟨rc1, rz1⟩ := (S0).rules; have rl1 := (S0).lt
  cases hd : p.heard l
  · have Hf := Lib.hid (wait_no1 hd)
    clear hd
    go_wp2_with fail
    go_ret
    exact ⟨by rw [Hf.out]; rfl, E⟩
  obtain ⟨hx, hdd⟩ := Hxd.out hd
  subst hdd
  have Hx := Lib.hid hx
  have Hd := Lib.hid hd
  have Hst := Lib.hid (heard_st hd (Int.le_refl _) (last_in hd).2)
  clear hd hx
  go_wp2_with fail
  refine (spec_GoesOnOk p _ _ x (doneL p.n l) _ (V.out.ext E) (D.out.base (Nat.zero_le _))).mono ?_
  rintro e w3 ⟨rfl, hb3⟩
  rw [show p.goes x (doneL p.n l) = p.goes (lastT l) (doneL p.n l) by rw [Hx.out]]
  clear rc0 rz0 rl0 rc1 rz1 rl1
  have A0 := A0.ext hb3
  have S0 := S0.ext hb3
  have D := Lib.hid (D.out.ext hb3)
  have E := ext_trans E hb3
  obtain ⟨rc0, rz0⟩ := (A0).rules; have rl0 := (A0).lt
  obtain ⟨rc1, rz1⟩ := (S0).rules; have rl1 := (S0).lt
  cases hg : p.goes (lastT l) (doneL p.n l)
  · have Hf := Lib.hid (wait_no2 hg)
    clear hg
    go_wp2_with fail
    go_ret
    exact ⟨by rw [Hf.out]; rfl, E⟩
  have Hf := Lib.hid (wait_yes Hd.out hg)
  clear hg
  go_wp2_with fail
  refine (spec_DeadlineOf p _ _ x (doneL p.n l) _ (V.out.ext E) (D.out.base (Nat.zero_le _)) (by rw [Hx.out]; exact Hst.out)).mono ?_
  rintro e w4 ⟨rfl, hb4⟩
  obtain ⟨z, hz⟩ : ∃ z, Hid (z = p.dead l) := ⟨_, rfl⟩
  rw [show deadTo p.clo (doneL p.n l) p.n p.n = z from hz.out.symm]
  rw [← hz.out] at Hf
  have E := ext_trans E hb4
  by_cases hz2 : z ≤ 2000
  · rw [Int.min_eq_left hz2] at Hf
    go_wp2_with fail
    go_ret
    exact ⟨by rw [Hf.out]; rfl, E⟩
  · rw [Int.min_eq_right (by omega)] at Hf
    go_wp2_with fail
    go_ret
    exact ⟨by rw [Hf.out]; rfl, E⟩
theorem next_no {p : Pl} {l : List Hp} (h : p.nextOk l = false) : p.next l = Hp.z := by unfold Pl.next; rw [if_neg (by rw [h]; simp)]
theorem nextOk_no1 {p : Pl} {l : List Hp} (h : p.verdict l (lastT l) ≠ 1) : p.nextOk l = false := by simp [Pl.nextOk, h]
theorem nextOk_no2 {p : Pl} {l : List Hp} (h : ¬ p.nextT l ≤ 2000) : p.nextOk l = false := by simp [Pl.nextOk, h]
theorem nextOk_yes {p : Pl} {l : List Hp} (h : p.verdict l (lastT l) = 1) (h2 : p.nextT l ≤ 2000) : p.nextOk l = true ∧ p.next l = ⟨p.nextP l, p.nextT l⟩ := by
  have : p.nextOk l = true := by simp [Pl.nextOk, h, h2]
  exact ⟨this, if_pos this⟩
set_option maxRecDepth 100000 in
set_option maxHeartbeats 8000000 in
theorem spec_NextOf (p : Pl) (bs lv : Value) (l : List Hp) (w : World) (hv : Bds w 0 bs p.bs) (hh : Hps w 0 lv l) (hlen : l.length ≤ 2000000) :
    Calls Try.prog 12 #[.agg #[.int .i64 p.pts, bs], lv] w fun e w' => e = .returned (.tuple #[(p.next l).val, .bool (p.nextOk l)]) ∧ Below w.heap.size w w' := by
  have V := Lib.hid hv
  have H := Lib.hid hh
  obtain ⟨a, c, rfl, hn, hc, -⟩ := hv.open
  obtain ⟨al, cl, rfl, hnl, hcl, -⟩ := hh.open
  obtain ⟨N, hN⟩ : ∃ N, Hid (N = l.length) := ⟨_, rfl⟩
  rw [← hN.out] at hnl hlen ⊢
  clear hv hh
  go_enter Try.func12, Try.ntmps12
  go_upto_if 15 with fail
  obtain ⟨W, hW, A0, R1, hs, E⟩ := two_boxes w #[.int .i64 p.pts, .slice a p.bs.length c] #[.int .i64 0, .int .i64 0] 25 30
  rw [← hW.out]
  obtain ⟨y, hy⟩ : ∃ x, Hid (x = lastT l) := ⟨_, rfl⟩
  go_cut [6] (fun v5 wx => v5 = .int .i64 y ∧ wx = W)
  case first =>
    by_cases hN0 : 0 < N
    · have hN0i : (0 : Int) < (N : Int) := by omega
      obtain ⟨g, ha, hg, -, cy⟩ := (H.out.ext E).atA (j := N - 1) (by rw [← hN.out]; omega)
      subst ha
      rw [hN.out, ← last_at l (by rw [← hN.out]; exact hN0), ← hy.out, ← hN.out] at cy
      have hk1 : (N : Int) - 1 = ((N - 1 : Nat) : Int) := by omega
      have hk1N : N - 1 < N := by omega
      have hk1i : 0 ≤ (N : Int) - 1 := by omega
      have hk1M : (N : Int) - 1 < (N : Int) := by omega
      have hk1n : ((N : Int) - 1).toNat = N - 1 := by omega
      go_wp2_with fail
      go_meet
      exact ⟨rfl, rfl⟩
    · have hN0i : ¬ (0 : Int) < (N : Int) := by omega
      have hy0 : y = 0 := by rw [hy.out]; exact last_zero l (by rw [← hN.out]; omega)
      go_wp2_with fail
      go_meet
      exact ⟨by rw [hy0], rfl⟩
  rename World => wt
  obtain ⟨rfl, rfl⟩ := hcut
  obtain ⟨rc0, rz0⟩ := (A0).rules; have rl0 := (A0).lt
  go_wp2_with fail
  refine (spec_VerdictOf p _ _ l y _ (V.out.ext E) (show Hps _ 0 (.slice al N cl) l by rw [hN.out]; exact H.out.ext E) (by rw [← hN.out]; exact hlen)).mono ?_
  rintro e w1 ⟨rfl, hb1⟩
  have qa := hb1.size
  obtain ⟨vd, hvd⟩ : ∃ v, Hid (v = p.verdict l (lastT l)) := ⟨_, rfl⟩
  rw [show p.verdict l y = vd by rw [hvd.out, hy.out]]
  clear rc0 rz0 rl0
  have A0 := A0.ext hb1
  have R1 := R1.ext hb1
  have E := ext_trans E hb1
  obtain ⟨rc0, rz0⟩ := (A0).rules; have rl0 := (A0).lt
  obtain ⟨rc1, rz1⟩ := (R1).rules; have rl1 := (R1).lt
  by_cases h1 : ¬ vd = 1
  · have hb : (vd != 1) = true := by simp [h1]
    have Hn := nextOk_no1 (p := p) (l := l) (by rw [← hvd.out]; exact h1)
    have Hn2 := Lib.hid (next_no Hn)
    have Hn := Lib.hid Hn
    clear h1
    go_wp2_with fail
    refine bodyPost_ret (v := .tuple #[.agg #[.int .i64 0, .int .i64 0], .bool false]) (by simp [results, Try.results12, go_sem, *]) rfl ?_
    exact ⟨by rw [Hn2.out, Hn.out]; rfl, ext_set (ext_set E (by simp) _) (by simp) _⟩
  have h1 := Decidable.not_not.1 h1
  have hb : (vd != 1) = false := by simp [h1]
  obtain ⟨⟨d1, d2, d3⟩, d4, d5⟩ := verdict_in.2.2.2.1 (hvd.out.symm.trans h1)
  have Hd := Lib.hid d1
  have Hv1 := Lib.hid (hvd.out.symm.trans h1)
  have H1 := Lib.hid h1
  have Hst := Lib.hid (heard_st d1 (Int.le_refl _) d3)
  obtain ⟨q1, q2, q3, -, -⟩ := plok_in (fits_ok (heard_iff.1 d1).1).1
  obtain ⟨n, hnn⟩ : ∃ n, Hid (n = p.n) := ⟨_, rfl⟩
  have Hp : Hid (p.pts = (n : Int)) := by rw [hnn.out]; exact Lib.hid q1
  rw [← hnn.out] at q2 q3
  clear d1 d2 d3 d4 d5 h1 q1
  go_wp2_with fail
  refine (spec_l14State p _ _ l y _ (V.out.ext E) (show Hps w1 0 (.slice al N cl) l by rw [hN.out]; exact H.out.ext E) Hd.out).mono ?_
  rintro e w2 ⟨v, rfl, hvd2, hb2⟩
  obtain ⟨av, cv, rfl, -⟩ := hvd2.open
  clear rc0 rz0 rl0 rc1 rz1 rl1
  have A0 := A0.ext hb2
  have R1 := R1.ext hb2
  have E := ext_trans E hb2
  have D := Lib.hid hvd2
  have qb := hb2.size
  have hw2s : w.heap.size + 2 ≤ w2.heap.size := by omega
  clear hvd2 hb2 hb1 qa qb
  obtain ⟨d, hd⟩ : ∃ d, Hid (d = doneL p.n l) := ⟨_, rfl⟩
  rw [← hd.out] at D Hst ⊢
  obtain ⟨dl, hdl⟩ : ∃ x, Hid (x = d.length) := ⟨_, rfl⟩
  rw [← hdl.out] at D ⊢
  have Dlt := Lib.hid D.out.lt
  go_upto_region 8 with fail
  obtain ⟨w3, hw3, S0, B0, hs3, E3⟩ := two_boxes w2 #[.int .i64 y, .slice av dl cv] #[.int .i64 (-1), .int .i64 100000] 43 30
  rw [← hw3.out]
  have A0 := A0.ext E3
  have R1 := R1.ext E3
  have E := ext_trans E E3
  have D := Lib.hid (D.out.ext E3)
  rw [← hy.out] at Hst
  obtain ⟨Dt, hDt⟩ : ∃ D, Hid (D = p.clo) := ⟨_, rfl⟩
  rw [Hp.out] at A0
  have hq2 := E.size
  obtain ⟨rc0, rz0⟩ := (A0).rules; have rl0 := (A0).lt
  go_wp2_with fail
  clear rc0 rz0 rl0
  go_loopg [9] n (fun m kk wr => ∃ k : Nat, k ≤ n ∧ m = n - k ∧ kk = .int .i64 k ∧ Below (w2.heap.size + 1) w3 wr ∧ Box wr (w2.heap.size + 1) 30 #[.int .i64 (bestP (-1) Dt y d n k), .int .i64 (bestT Dt y d n k)])
  case atStart => exact ⟨0, by omega, by omega, rfl, Below.refl _ _, B0⟩
  case round =>
    clear B0
    obtain ⟨k, hk, hgk, rfl, hb', B0⟩ := hrel
    have Hk := Lib.hid hgk
    clear hgk
    have Ew : Below w.heap.size w wr := E.trans (hb'.mono (by omega))
    have A1 : Box wr w.heap.size _ _ := (hb'.block _ (by omega)).trans A0
    have R2 : Box wr (w.heap.size + 1) _ _ := (hb'.block _ (by omega)).trans R1
    have S1 : Box wr w2.heap.size _ _ := (hb'.block _ (by omega)).trans S0
    have hws := hb'.size
    obtain ⟨bp, hbp⟩ : ∃ x, Hid (x = bestP (-1) Dt y d n k) := ⟨_, rfl⟩
    obtain ⟨bt, hbt⟩ : ∃ x, Hid (x = bestT Dt y d n k) := ⟨_, rfl⟩
    rw [← hbp.out, ← hbt.out] at B0
    have Dr : Hid (∀ wx, Below wr.heap.size wr wx → Ints wx 0 (.slice av dl cv) d) := Lib.hid fun wx hx => by
      have h1 : Ints wr w1.heap.size (.slice av dl cv) d := own_below D.out hb' fun q hq => by have := (Dlt.out q hq).2; omega
      exact (h1.ext hx).base (Nat.zero_le _)
    obtain ⟨rc0, rz0⟩ := (A1).rules; have rl0 := (A1).lt
    obtain ⟨rc1, rz1⟩ := (S1).rules; have rl1 := (S1).lt
    obtain ⟨rc2, rz2⟩ := (B0).rules; have rl2 := (B0).lt
    by_cases hlk : k < n
    · go_wp2_with fail
      refine ((show Calls Try.prog 47 #[.agg #[.int .i64 n, .slice a p.bs.length c], .agg #[.int .i64 y, .slice av dl cv], .int .i64 k] wr (RetWin wr p y d k) by rw [← Hp.out]; exact spec_WindowOf p _ _ y d k _ (V.out.ext Ew) (Dr.out _ (ext_refl _)) Hst.out (by rw [← hnn.out]; exact hlk))).mono ?_
      rintro e w4 ⟨lo, hi, rfl, hlo, hb4⟩
      have Hlo : Hid (dA d k = -1 → lo = winLow Dt y d k n) := by rw [hDt.out, hnn.out]; exact Lib.hid fun h => (hlo h).1
      obtain ⟨oo, hoo⟩ : ∃ b, Hid (b = decide (dA d k = -1)) := ⟨_, rfl⟩
      rw [← hoo.out]
      clear rc0 rz0 rl0 rc1 rz1 rl1 rc2 rz2 rl2 hlo
      have A1 := A1.ext hb4
      have S1 := S1.ext hb4
      have B0 := B0.ext hb4
      obtain ⟨rc0, rz0⟩ := (A1).rules; have rl0 := (A1).lt
      obtain ⟨rc1, rz1⟩ := (S1).rules; have rl1 := (S1).lt
      go_wp2_with fail
      refine ((show Calls Try.prog 48 #[.agg #[.int .i64 n, .slice a p.bs.length c], .agg #[.int .i64 y, .slice av dl cv], .int .i64 k] w4 (fun e w' => e = .returned (.bool (readyAt Dt d n k)) ∧ Below w4.heap.size w4 w') by rw [← Hp.out, hDt.out, hnn.out]; exact spec_ReadyOk p _ _ y d k _ (V.out.ext (ext_trans Ew hb4)) (Dr.out _ hb4) Hst.out (by rw [← hnn.out]; exact hlk))).mono ?_
      rintro e w5 ⟨rfl, hb5⟩
      clear rc0 rz0 rl0 rc1 rz1 rl1
      have A1 := A1.ext hb5
      have S1 := S1.ext hb5
      have B0 := B0.ext hb5
      have hbx := ext_trans hb4 hb5
      have hb2 : Below (w2.heap.size + 1) w3 w5 := hb'.trans (hbx.mono (by omega))
      obtain ⟨rc0, rz0⟩ := (A1).rules; have rl0 := (A1).lt
      obtain ⟨rc2, rz2⟩ := (B0).rules; have rl2 := (B0).lt
      cases hr : readyAt Dt d n k
      · have hn1 : Hid (bestP (-1) Dt y d n (k+1) = bp) := by rw [bestP_succ, if_neg (by rw [hr]; simp), ← hbp.out]; exact Lib.hid rfl
        have hn2 : Hid (bestT Dt y d n (k+1) = bt) := by rw [bestT_succ, if_neg (by rw [hr]; simp), ← hbt.out]; exact Lib.hid rfl
        clear hr
        go_wp2_with fail
        go_roundg (n - (k+1))
        case rel => exact ⟨k+1, by omega, rfl, by go_num, hb2, by rw [hn1.out, hn2.out]; exact B0⟩
        case measure => have := Hk.out; omega
      · have hlo2 := Hlo.out (readyAt_iff.1 hr).1
        by_cases hlt : lo < bt
        · have hn1 : Hid (bestP (-1) Dt y d n (k+1) = (k : Int)) := by rw [bestP_succ, if_pos ⟨hr, by rw [← hlo2, ← hbt.out]; exact hlt⟩]; exact Lib.hid rfl
          have hn2 : Hid (bestT Dt y d n (k+1) = lo) := by rw [bestT_succ, if_pos ⟨hr, by rw [← hlo2, ← hbt.out]; exact hlt⟩, hlo2]; exact Lib.hid rfl
          have Hlo2 := Lib.hid hlo2
          clear hr hlo2
          go_wp2_with fail
          go_roundg (n - (k+1))
          case rel => exact ⟨k+1, by omega, rfl, by go_num, (hb2.setCell (Nat.le_refl _) _).setCell (Nat.le_refl _) _, by rw [hn1.out, hn2.out]; exact (B0.set 0 _).set 1 _⟩
          case measure => have := Hk.out; omega
        · have hn1 : Hid (bestP (-1) Dt y d n (k+1) = bp) := by rw [bestP_succ, if_neg (fun h => hlt (by rw [hlo2, hbt.out]; exact h.2)), ← hbp.out]; exact Lib.hid rfl
          have hn2 : Hid (bestT Dt y d n (k+1) = bt) := by rw [bestT_succ, if_neg (fun h => hlt (by rw [hlo2, hbt.out]; exact h.2)), ← hbt.out]; exact Lib.hid rfl
          have Hlo2 := Lib.hid hlo2
          clear hr hlo2
          go_wp2_with fail
          go_roundg (n - (k+1))
          case rel => exact ⟨k+1, by omega, rfl, by go_num, hb2, by rw [hn1.out, hn2.out]; exact B0⟩
          case measure => have := Hk.out; omega
    · have hkn : k = n := by omega
      subst hkn
      have hT : Hid (p.nextT l = bt) := by
        unfold Pl.nextT; rw [← hDt.out, ← hy.out, ← hd.out, ← hnn.out, hbt.out]; exact Lib.hid rfl
      have hP : Hid (p.nextP l = bp) := by
        unfold Pl.nextP; rw [← hDt.out, ← hy.out, ← hd.out, ← hnn.out, hbp.out]; exact Lib.hid rfl
      obtain ⟨rc3, rz3⟩ := (R2).rules; have rl3 := (R2).lt
      by_cases h2 : 2000 < bt
      · have Hn := nextOk_no2 (p := p) (l := l) (by rw [hT.out]; omega)
        have Hn2 := Lib.hid (next_no Hn)
        have Hn := Lib.hid Hn
        go_wp2_with fail
        refine bodyPost_ret (v := .tuple #[.agg #[.int .i64 0, .int .i64 0], .bool false]) (by simp [results, Try.results12, go_sem, *]) rfl ?_
        exact ⟨by rw [Hn2.out, Hn.out]; rfl, ext_set (ext_set Ew (by simp) _) (by simp) _⟩
      · obtain ⟨Hn, Hn2⟩ := nextOk_yes Hv1.out (by rw [hT.out]; omega)
        rw [hT.out, hP.out] at Hn2
        have Hn := Lib.hid Hn
        have Hn2 := Lib.hid Hn2
        go_wp2_with fail
        refine bodyPost_ret (v := .tuple #[.agg #[.int .i64 bp, .int .i64 bt], .bool true]) (by simp [results, Try.results12, go_sem, *]) rfl ?_
        exact ⟨by first | rfl | (rw [Hn2.out, Hn.out]; rfl), ext_set (ext_set Ew (by simp) _) (by simp) _⟩
end Go.Proofs.Ytffcfambgcaikaa
