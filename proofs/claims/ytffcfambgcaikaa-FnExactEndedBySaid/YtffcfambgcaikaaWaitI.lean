/- The walks of WaitUntil, NextOf and EndedBy of impl. Conditions: the bounds and the happenings can be read, at most two million. -/
import Derived.Test.YtffcfambgcaikaaVerdI
import Derived.Test.YtffcfambgcaikaaEndS
namespace Go.Proofs.Ytffcfambgcaikaa
open Go.RowKit
set_option linter.unusedVariables false
set_option linter.unusedSimpArgs false
set_option maxRecDepth 100000 in
set_option maxHeartbeats 4000000 in
theorem impl_WaitUntil (p : Pl) (bs lv : Value) (l : List Hp) (w : World) (hv : Bds w 0 bs p.bs) (hh : Hps w 0 lv l) (hlen : l.length ≤ 2000000) :
    Calls Try.prog 16 #[.agg #[.int .i64 p.pts, bs], lv] w fun e w' => e = .returned (.int .i64 (p.waitU l)) ∧ Below w.heap.size w w' := by
  have V := Lib.hid hv
  have H := Lib.hid hh
  obtain ⟨a, c, rfl, hn, hc, -⟩ := hv.open
  obtain ⟨al, cl, rfl, hnl, hcl, -⟩ := hh.open
  obtain ⟨N, hN⟩ : ∃ N, Hid (N = l.length) := ⟨_, rfl⟩
  rw [← hN.out] at hnl hlen ⊢
  clear hv hh
  go_enter Try.func16, Try.ntmps16
  go_wp2_with fail
  obtain ⟨W, hW, A0, hs, E⟩ := one_box w #[.int .i64 p.pts, .slice a p.bs.length c] 25
  rw [← hW.out]
  have Hl : Hid (∀ wx, Below w.heap.size w wx → Hps wx 0 (.slice al N cl) l) := Lib.hid fun wx hx => by rw [hN.out]; exact H.out.ext hx
  obtain ⟨rc0, rz0⟩ := (A0).rules; have rl0 := (A0).lt
  go_wp2_with fail
  refine (impl_HeardOk p _ _ l _ (V.out.ext E) (Hl.out _ E) (by rw [← hN.out]; exact hlen)).mono ?_
  rintro e w1 ⟨rfl, hb1⟩
  clear rc0 rz0 rl0
  have A0 := A0.ext hb1
  have E := ext_trans E hb1
  clear hb1
  obtain ⟨rc0, rz0⟩ := (A0).rules; have rl0 := (A0).lt
  cases hd : p.heard l
  · have Hf := Lib.hid (wait_no1 hd)
    clear hd
    go_wp2_with fail
    go_ret
    exact ⟨by rw [Hf.out]; rfl, E⟩
  have Hd := Lib.hid hd
  clear hd
  go_wp2_with fail
  refine (impl_broken p _ _ l _ (V.out.ext E) (Hl.out _ E) (by rw [← hN.out]; exact hlen)).mono ?_
  rintro e w2 ⟨rfl, hb2⟩
  clear rc0 rz0 rl0
  have A0 := A0.ext hb2
  have E := ext_trans E hb2
  clear hb2
  have hvl := last_le Hd.out (lastT l) (Int.le_refl _) (last_in Hd.out).2
  cases hg : p.goes (lastT l) (doneL p.n l)
  · rw [show decide (p.verdict l (lastT l) = 2) = true from decide_eq_true (hvl.2 hg)]
    have Hf := Lib.hid (wait_no2 hg)
    clear hg hvl
    go_wp2_with fail
    go_ret
    exact ⟨by rw [Hf.out]; rfl, E⟩
  rw [show decide (p.verdict l (lastT l) = 2) = false from decide_eq_false (fun h => by rw [hvl.1 h] at hg; cases hg)]
  have hlaw := wait_law Hd.out hg
  have Hf := wait_yes Hd.out hg
  rw [← Hf] at hlaw
  obtain ⟨z, hz⟩ : ∃ z, Hid (z = p.waitU l) := ⟨_, rfl⟩
  obtain ⟨y, hy⟩ : ∃ x, Hid (x = lastT l) := ⟨_, rfl⟩
  rw [← hz.out, ← hy.out] at hlaw
  obtain ⟨l1, l2, l3⟩ := hlaw
  have L3 := Lib.hid l3
  have hy0 : 0 ≤ y := by rw [hy.out]; exact (last_in Hd.out).1
  clear hg hvl Hf l3
  go_wp2_with fail
  refine (impl_lastTime _ l _ (Hl.out _ E) (by rw [← hN.out]; exact hlen)).mono ?_
  rintro e w3 ⟨rfl, rfl⟩
  rw [← hy.out]
  go_wp2_with fail
  go_loopg [5, 6] (2000 - y).toNat (fun m lo hi wr => ∃ (x u : Int), lo = .int .i64 x ∧ hi = .int .i64 u ∧ y ≤ x ∧ x ≤ z ∧ z ≤ u ∧ u ≤ 2000 ∧ m = (u - x).toNat ∧ Below w2.heap.size w2 wr)
  case atStart => exact ⟨y, 2000, rfl, rfl, Int.le_refl _, l1, l2, Int.le_refl _, rfl, ext_refl _⟩
  case round =>
    obtain ⟨x, u, rfl, rfl, h1, h2, h3, h4, hgk, hb⟩ := hrel
    have Hk := Lib.hid hgk
    clear hgk
    have A1 := A0.ext hb
    have Ew := ext_trans E hb
    obtain ⟨rc0, rz0⟩ := (A1).rules; have rl0 := (A1).lt
    by_cases hxu : x < u
    · obtain ⟨M, hM1⟩ : ∃ M, (x + u + 1) / 2 = M := ⟨_, rfl⟩
      have hM2 : (x + u + 1).tdiv 2 = M := by rw [Int.tdiv_eq_ediv_of_nonneg (by omega)]; exact hM1
      have hMr : x < M ∧ M ≤ u := by omega
      go_wp2_with fail
      refine (impl_VerdictOf p _ _ l M _ (V.out.ext Ew) (Hl.out _ Ew) (by rw [← hN.out]; exact hlen)).mono ?_
      rintro e w4 ⟨rfl, hb4⟩
      obtain ⟨v, hv⟩ : ∃ v, Hid (v = p.verdict l M) := ⟨_, rfl⟩
      have hiff := L3.out M (by omega) (by omega)
      rw [← hv.out] at hiff
      rw [← hv.out]
      have hb := ext_trans hb hb4
      clear rc0 rz0 rl0 hM1 hM2
      by_cases hv2 : v = 2
      · have hvb : (v == 2) = true := by simp [hv2]
        have hlt := hiff.1 hv2
        have Hv2 := Lib.hid hv2
        clear hv2 hiff
        go_wp2_with fail
        go_roundg (M - 1 - x).toNat
        case rel => exact ⟨x, M - 1, rfl, rfl, h1, h2, by omega, by omega, rfl, hb⟩
        case measure => have := Hk.out; omega
      · have hvb : (v == 2) = false := by simp [hv2]
        have hlt : M ≤ z := by
          rcases Int.lt_or_le z M with h | h
          · exact absurd (hiff.2 h) hv2
          · exact h
        have Hv2 := Lib.hid hv2
        clear hv2 hiff
        go_wp2_with fail
        go_roundg (u - M).toNat
        case rel => exact ⟨M, u, rfl, rfl, by omega, hlt, h3, h4, rfl, hb⟩
        case measure => have := Hk.out; omega
    · have hxz : x = z := by omega
      subst hxz
      go_wp2_with fail
      go_ret
      exact ⟨by rw [← hz.out]; rfl, Ew⟩
set_option maxRecDepth 100000 in
set_option maxHeartbeats 8000000 in
theorem impl_NextOf (p : Pl) (bs lv : Value) (l : List Hp) (w : World) (hv : Bds w 0 bs p.bs) (hh : Hps w 0 lv l) (hlen : l.length ≤ 2000000) :
    Calls Try.prog 11 #[.agg #[.int .i64 p.pts, bs], lv] w fun e w' => e = .returned (.tuple #[(p.next l).val, .bool (p.nextOk l)]) ∧ Below w.heap.size w w' := by
  have V := Lib.hid hv
  have H := Lib.hid hh
  obtain ⟨a, c, rfl, hn, hc, -⟩ := hv.open
  obtain ⟨al, cl, rfl, hnl, hcl, -⟩ := hh.open
  obtain ⟨N, hN⟩ : ∃ N, Hid (N = l.length) := ⟨_, rfl⟩
  rw [← hN.out] at hnl hlen ⊢
  clear hv hh
  go_enter Try.func11, Try.ntmps11
  go_wp2_with fail
  obtain ⟨W, hW, A0, R1, hs, E⟩ := two_boxes w #[.int .i64 p.pts, .slice a p.bs.length c] #[.int .i64 0, .int .i64 0] 25 30
  rw [← hW.out]
  have Hl : Hid (∀ wx, Below w.heap.size w wx → Hps wx 0 (.slice al N cl) l) := Lib.hid fun wx hx => by rw [hN.out]; exact H.out.ext hx
  obtain ⟨y, hy⟩ : ∃ x, Hid (x = lastT l) := ⟨_, rfl⟩
  refine (impl_lastTime _ l _ (Hl.out _ E) (by rw [← hN.out]; exact hlen)).mono ?_
  rintro e w0 ⟨rfl, rfl⟩
  rw [← hy.out]
  obtain ⟨rc0, rz0⟩ := (A0).rules; have rl0 := (A0).lt
  go_wp2_with fail
  refine (impl_VerdictOf p _ _ l y _ (V.out.ext E) (Hl.out _ E) (by rw [← hN.out]; exact hlen)).mono ?_
  rintro e w1 ⟨rfl, hb1⟩
  have qa := hb1.size
  obtain ⟨vd, hvd⟩ : ∃ v, Hid (v = p.verdict l (lastT l)) := ⟨_, rfl⟩
  rw [show p.verdict l y = vd by rw [hvd.out, hy.out]]
  clear rc0 rz0 rl0
  have A0 := A0.ext hb1
  have R1 := R1.ext hb1
  have E := ext_trans E hb1
  obtain ⟨rc0, rz0⟩ := (A0).rules; have rl0 := (A0).lt
  obtain ⟨rc1, rz1⟩ := (R1).rules; have rl1 := (R1).lt
  by_cases h1 : ¬ vd = 1
  · have hb : (vd != 1) = true := by simp [h1]
    have Hn := nextOk_no1 (p := p) (l := l) (by rw [← hvd.out]; exact h1)
    have Hn2 := Lib.hid (next_no Hn)
    have Hn := Lib.hid Hn
    clear h1
    go_wp2_with fail
    refine bodyPost_ret (v := .tuple #[.agg #[.int .i64 0, .int .i64 0], .bool false]) (by simp [results, Try.results11, go_sem, *]) rfl ?_
    exact ⟨by rw [Hn2.out, Hn.out]; rfl, ext_set (ext_set E (by simp) _) (by simp) _⟩
  have h1 := Decidable.not_not.1 h1
  have hb : (vd != 1) = false := by simp [h1]
  obtain ⟨⟨d1, d2, d3⟩, d4, d5⟩ := verdict_in.2.2.2.1 (hvd.out.symm.trans h1)
  have Hd := Lib.hid d1
  have Hv1 := Lib.hid (hvd.out.symm.trans h1)
  have H1 := Lib.hid h1
  have Hst := Lib.hid (heard_st d1 (Int.le_refl _) d3)
  have hokk : (p.heard l && inB y (lastT l) 2000) = true := by rw [hy.out, last_ok]; exact d1
  have Hokk := Lib.hid hokk
  obtain ⟨q1, q2, q3, -, -⟩ := plok_in (fits_ok (heard_iff.1 d1).1).1
  obtain ⟨n, hnn⟩ : ∃ n, Hid (n = p.n) := ⟨_, rfl⟩
  rw [← hnn.out] at q2 q3
  clear d1 d2 d3 d4 d5 h1 q1 hokk
  go_wp2_with fail
  refine (impl_StateAfter p _ _ l y _ (V.out.ext E) (Hl.out _ E) (by rw [← hN.out]; exact hlen)).mono ?_
  rintro e w2 ⟨x, v, d, rfl, hvd2, hxd, hb2⟩
  obtain ⟨hxe, hde⟩ := hxd Hokk.out
  rw [Hokk.out]
  subst hxe
  have hd : Hid (d = doneL p.n l) := Lib.hid hde
  have hdn : Hid (d.length = n) := by rw [hd.out, hnn.out]; exact Lib.hid (doneTo_length _ (by rw [← hnn.out]; exact q2) _ _)
  obtain ⟨av, cv, rfl, -⟩ := hvd2.open
  rw [hdn.out] at hvd2 ⊢
  clear rc0 rz0 rl0 rc1 rz1 rl1 hxd hde
  have A0 := A0.ext hb2
  have R1 := R1.ext hb2
  have E := ext_trans E hb2
  have D := Lib.hid hvd2
  have qb := hb2.size
  have hw2s : w.heap.size + 2 ≤ w2.heap.size := by omega
  clear hvd2 hb2 hb1 qa qb
  rw [← hd.out] at Hst
  have Dlt := Lib.hid D.out.lt
  go_upto_region 6 with fail
  obtain ⟨w3, hw3, S0, B0, hs3, E3⟩ := two_boxes w2 #[.int .i64 x, .slice av n cv] #[.int .i64 0, .int .i64 100000] 43 30
  rw [← hw3.out]
  have A0 := A0.ext E3
  have R1 := R1.ext E3
  have E := ext_trans E E3
  have D := Lib.hid (D.out.ext E3)
  rw [← hy.out] at Hst
  obtain ⟨Dt, hDt⟩ : ∃ D, Hid (D = p.clo) := ⟨_, rfl⟩
  have hq2 := E.size
  obtain ⟨rc1, rz1⟩ := (S0).rules; have rl1 := (S0).lt
  go_wp2_with fail
  clear rc1 rz1 rl1
  go_loopg [33] n (fun m kk wr => ∃ k : Nat, k ≤ n ∧ m = n - k ∧ kk = .int .i64 k ∧ Below (w2.heap.size + 1) w3 wr ∧ Box wr (w2.heap.size + 1) 30 #[.int .i64 (bestP 0 Dt x d n k), .int .i64 (bestT Dt x d n k)])
  case atStart => exact ⟨0, by omega, by omega, rfl, Below.refl _ _, B0⟩
  case round =>
    clear B0
    obtain ⟨k, hk, hgk, rfl, hb', B0⟩ := hrel
    have Hk := Lib.hid hgk
    clear hgk
    have Ew : Below w.heap.size w wr := E.trans (hb'.mono (by omega))
    have A1 : Box wr w.heap.size _ _ := (hb'.block _ (by omega)).trans A0
    have R2 : Box wr (w.heap.size + 1) _ _ := (hb'.block _ (by omega)).trans R1
    have S1 : Box wr w2.heap.size _ _ := (hb'.block _ (by omega)).trans S0
    have hws := hb'.size
    obtain ⟨bp, hbp⟩ : ∃ x', Hid (x' = bestP 0 Dt x d n k) := ⟨_, rfl⟩
    obtain ⟨bt, hbt⟩ : ∃ x', Hid (x' = bestT Dt x d n k) := ⟨_, rfl⟩
    rw [← hbp.out, ← hbt.out] at B0
    have Dr : Hid (∀ wx, Below wr.heap.size wr wx → Ints wx 0 (.slice av n cv) d) := Lib.hid fun wx hx => by
      have h1 : Ints wr w1.heap.size (.slice av n cv) d := own_below D.out hb' fun q hq => by have := (Dlt.out q hq).2; omega
      exact (h1.ext hx).base (Nat.zero_le _)
    obtain ⟨rc0, rz0⟩ := (A1).rules; have rl0 := (A1).lt
    obtain ⟨rc1, rz1⟩ := (S1).rules; have rl1 := (S1).lt
    by_cases hlk : k < n
    · go_wp2_with fail
      refine ((show Calls Try.prog 43 #[.agg #[.int .i64 p.pts, .slice a p.bs.length c], .agg #[.int .i64 x, .slice av n cv], .int .i64 k] wr (fun e w' => e = .returned (.bool (readyAt Dt d n k)) ∧ Below wr.heap.size wr w') by rw [hDt.out, hnn.out]; exact impl_ReadyOk p _ _ x d k _ (V.out.ext Ew) (by rw [← hnn.out]; exact Dr.out _ (ext_refl _)) Hst.out (by rw [← hnn.out]; exact hlk))).mono ?_
      rintro e w4 ⟨rfl, hb4⟩
      clear rc0 rz0 rl0 rc1 rz1 rl1
      have A1 := A1.ext hb4
      have S1 := S1.ext hb4
      have B0 := B0.ext hb4
      have hb2 : Below (w2.heap.size + 1) w3 w4 := hb'.trans (hb4.mono (by omega))
      obtain ⟨rc0, rz0⟩ := (A1).rules; have rl0 := (A1).lt
      obtain ⟨rc1, rz1⟩ := (S1).rules; have rl1 := (S1).lt
      cases hr : readyAt Dt d n k
      · have hn1 : Hid (bestP 0 Dt x d n (k+1) = bp) := by rw [bestP_succ, if_neg (by rw [hr]; simp), ← hbp.out]; exact Lib.hid rfl
        have hn2 : Hid (bestT Dt x d n (k+1) = bt) := by rw [bestT_succ, if_neg (by rw [hr]; simp), ← hbt.out]; exact Lib.hid rfl
        clear hr
        go_wp2_with fail
        go_roundg (n - (k+1))
        case rel => exact ⟨k+1, by omega, rfl, by go_num, hb2, by rw [hn1.out, hn2.out]; exact B0⟩
        case measure => have := Hk.out; omega
      · have Hr := Lib.hid hr
        clear hr
        go_wp2_with fail
        obtain ⟨lo, hlo⟩ : ∃ z, Hid (z = winLow Dt x d k n) := ⟨_, rfl⟩
        obtain ⟨hi, hhi⟩ : ∃ z, Hid (z = winHigh Dt d k n) := ⟨_, rfl⟩
        refine ((show Calls Try.prog 44 #[.agg #[.int .i64 p.pts, .slice a p.bs.length c], .agg #[.int .i64 x, .slice av n cv], .int .i64 k] w4 (fun e w' => e = .returned (.tuple #[.int .i64 lo, .int .i64 hi, .bool true]) ∧ Below w4.heap.size w4 w') by rw [hlo.out, hhi.out, hDt.out, hnn.out]; exact impl_WindowOf p _ _ x d k _ (V.out.ext (ext_trans Ew hb4)) (by rw [← hnn.out]; exact Dr.out _ hb4) Hst.out (by rw [← hnn.out]; exact hlk) (readyAt_iff.1 Hr.out).1)).mono ?_
        rintro e w5 ⟨rfl, hb5⟩
        clear rc0 rz0 rl0 rc1 rz1 rl1
        have B0 := B0.ext hb5
        have hbx := ext_trans hb4 hb5
        have hb2 : Below (w2.heap.size + 1) w3 w5 := hb'.trans (hbx.mono (by omega))
        obtain ⟨rc2, rz2⟩ := (B0).rules; have rl2 := (B0).lt
        by_cases hlt : lo < bt
        · have hn1 : Hid (bestP 0 Dt x d n (k+1) = (k : Int)) := by rw [bestP_succ, if_pos ⟨Hr.out, by rw [← hlo.out, ← hbt.out]; exact hlt⟩]; exact Lib.hid rfl
          have hn2 : Hid (bestT Dt x d n (k+1) = lo) := by rw [bestT_succ, if_pos ⟨Hr.out, by rw [← hlo.out, ← hbt.out]; exact hlt⟩, hlo.out]; exact Lib.hid rfl
          go_wp2_with fail
          go_roundg (n - (k+1))
          case rel => exact ⟨k+1, by omega, rfl, by go_num, (hb2.setCell (Nat.le_refl _) _).setCell (Nat.le_refl _) _, by rw [hn1.out, hn2.out]; exact (B0.set 0 _).set 1 _⟩
          case measure => have := Hk.out; omega
        · have hn1 : Hid (bestP 0 Dt x d n (k+1) = bp) := by rw [bestP_succ, if_neg (fun h => hlt (by rw [hlo.out, hbt.out]; exact h.2)), ← hbp.out]; exact Lib.hid rfl
          have hn2 : Hid (bestT Dt x d n (k+1) = bt) := by rw [bestT_succ, if_neg (fun h => hlt (by rw [hlo.out, hbt.out]; exact h.2)), ← hbt.out]; exact Lib.hid rfl
          go_wp2_with fail
          go_roundg (n - (k+1))
          case rel => exact ⟨k+1, by omega, rfl, by go_num, hb2, by rw [hn1.out, hn2.out]; exact B0⟩
          case measure => have := Hk.out; omega
    · have hkn : k = n := by omega
      subst hkn
      have hT : Hid (p.nextT l = bt) := by
        unfold Pl.nextT; rw [← hDt.out, ← hy.out, ← hd.out, ← hnn.out, hbt.out]; exact Lib.hid rfl
      obtain ⟨rc3, rz3⟩ := (R2).rules; have rl3 := (R2).lt
      obtain ⟨rc2, rz2⟩ := (B0).rules; have rl2 := (B0).lt
      by_cases h2 : 2000 < bt
      · have Hn := nextOk_no2 (p := p) (l := l) (by rw [hT.out]; omega)
        have Hn2 := Lib.hid (next_no Hn)
        have Hn := Lib.hid Hn
        go_wp2_with fail
        refine bodyPost_ret (v := .tuple #[.agg #[.int .i64 0, .int .i64 0], .bool false]) (by simp [results, Try.results11, go_sem, *]) rfl ?_
        exact ⟨by rw [Hn2.out, Hn.out]; rfl, ext_set (ext_set Ew (by simp) _) (by simp) _⟩
      · have hP : Hid (p.nextP l = bp) := by
          unfold Pl.nextP; rw [← hDt.out, ← hy.out, ← hd.out, ← hnn.out, best_pt (-1) 0 _ _ _ _ _ (by rw [← hbt.out]; omega), hbp.out]; exact Lib.hid rfl
        obtain ⟨Hn, Hn2⟩ := nextOk_yes Hv1.out (by rw [hT.out]; omega)
        rw [hT.out, hP.out] at Hn2
        have Hn := Lib.hid Hn
        have Hn2 := Lib.hid Hn2
        go_wp2_with fail
        refine bodyPost_ret (v := .tuple #[.agg #[.int .i64 bp, .int .i64 bt], .bool true]) (by simp [results, Try.results11, go_sem, *]) rfl ?_
        exact ⟨by first | rfl | (rw [Hn2.out, Hn.out]; rfl), ext_set (ext_set Ew (by simp) _) (by simp) _⟩
end Go.Proofs.Ytffcfambgcaikaa
