/- The walk of CommonOf of spec. Condition: the bounds can be read. -/
import Derived.Test.YtpccfkbpnfbdaaaCommon
import Derived.Test.YtpccfkbpnfbdaaaFitsS
import Derived.Deep.Cut
namespace Go.Proofs.Ytpccfkbpnfbdaaa
open Go.RowKit
set_option linter.unusedVariables false
set_option linter.unusedSimpArgs false
set_option maxRecDepth 100000 in
set_option maxHeartbeats 8000000 in
theorem spec_CommonOf (p q : Pl) (vp vq : Value) (w : World) (hp : Bds w 0 vp p.bs) (hq : Bds w 0 vq q.bs) :
    Calls Try.prog 34 #[.agg #[.int .i64 p.pts, vp], .agg #[.int .i64 q.pts, vq]] w (RetPlanB w (p.common q) (p.commonOk q)) := by
  have HP := Lib.hid hp
  have HQ := Lib.hid hq
  obtain ⟨a, c, rfl, hn, hc, -⟩ := hp.open
  obtain ⟨aq, cq, rfl, hnq, hcq, -⟩ := hq.open
  clear hp hq
  go_enter Try.func34, Try.ntmps34
  go_wp2_with fail
  obtain ⟨W, hW, A0, B0, R, hs, E⟩ := three_boxes w #[.int .i64 p.pts, .slice a p.bs.length c] #[.int .i64 q.pts, .slice aq q.bs.length cq] #[.int .i64 0, .slice none 0 0] 29 29 29
  rw [← hW.out]
  have q0 : w.heap.size + 3 ≤ W.heap.size := hs
  refine (spec_FitsOk p _ _ (HP.out.ext E)).mono ?_
  rintro e w1 ⟨rfl, hb1⟩
  have A0 := A0.ext hb1
  have B0 := B0.ext hb1
  have R := R.ext hb1
  have E := ext_trans E hb1
  have q1 := hb1.size
  clear hb1
  cases hf : p.fits
  · skip
    have Hf : Hid (p.commonOk q = false) := by simp [Pl.commonOk, hf]; exact Lib.hid trivial
    have Hz : Hid (p.common q = Pl.zero) := Lib.hid (if_neg (by rw [Hf.out]; simp))
    obtain ⟨rc0, rz0⟩ := (A0).rules; have rl0 := (A0).lt
    obtain ⟨rc1, rz1⟩ := (B0).rules; have rl1 := (B0).lt
    obtain ⟨rc2, rz2⟩ := (R).rules; have rl2 := (R).lt
    go_wp2_with fail
    refine bodyPost_ret (v := .tuple #[.agg #[.int .i64 0, .slice none 0 0], .bool false]) (by simp [results, Try.results34, go_sem, *]) rfl ?_
    rw [Hf.out, Hz.out]
    exact ⟨_, rfl, Bds.nil _ _, ext_set (ext_set E (by dsimp only; omega) _) (by dsimp only; omega) _⟩
  obtain ⟨rc1, rz1⟩ := (B0).rules; have rl1 := (B0).lt
  go_wp2_with fail
  refine (spec_FitsOk q _ _ (HQ.out.ext E)).mono ?_
  rintro e w2 ⟨rfl, hb2⟩
  have A0 := A0.ext hb2
  have B0 := B0.ext hb2
  have R := R.ext hb2
  have E := ext_trans E hb2
  have q2 := hb2.size
  clear hb2 rc1 rz1 rl1
  cases hf2 : q.fits
  · skip
    have Hf : Hid (p.commonOk q = false) := by simp [Pl.commonOk, hf2]; exact Lib.hid trivial
    have Hz : Hid (p.common q = Pl.zero) := Lib.hid (if_neg (by rw [Hf.out]; simp))
    obtain ⟨rc0, rz0⟩ := (A0).rules; have rl0 := (A0).lt
    obtain ⟨rc1, rz1⟩ := (B0).rules; have rl1 := (B0).lt
    obtain ⟨rc2, rz2⟩ := (R).rules; have rl2 := (R).lt
    go_wp2_with fail
    refine bodyPost_ret (v := .tuple #[.agg #[.int .i64 0, .slice none 0 0], .bool false]) (by simp [results, Try.results34, go_sem, *]) rfl ?_
    rw [Hf.out, Hz.out]
    exact ⟨_, rfl, Bds.nil _ _, ext_set (ext_set E (by dsimp only; omega) _) (by dsimp only; omega) _⟩
  have hfo := fits_ok hf
  obtain ⟨q1', q2', q3', q4', q5⟩ := plok_in hfo.1
  have hfo2 := fits_ok hf2
  obtain ⟨r1', r2', r3', r4', r5⟩ := plok_in hfo2.1
  by_cases hpq : p.pts = q.pts
  rotate_left
  · have hne : (p.pts != q.pts) = true := by simp; exact hpq
    have Hf : Hid (p.commonOk q = false) := by simp [Pl.commonOk, hpq]; exact Lib.hid trivial
    have Hz : Hid (p.common q = Pl.zero) := Lib.hid (if_neg (by rw [Hf.out]; simp))
    obtain ⟨rc0, rz0⟩ := (A0).rules; have rl0 := (A0).lt
    obtain ⟨rc1, rz1⟩ := (B0).rules; have rl1 := (B0).lt
    obtain ⟨rc2, rz2⟩ := (R).rules; have rl2 := (R).lt
    go_wp2_with fail
    refine bodyPost_ret (v := .tuple #[.agg #[.int .i64 0, .slice none 0 0], .bool false]) (by simp [results, Try.results34, go_sem, *]) rfl ?_
    rw [Hf.out, Hz.out]
    exact ⟨_, rfl, Bds.nil _ _, ext_set (ext_set E (by dsimp only; omega) _) (by dsimp only; omega) _⟩
  obtain ⟨n, hnn⟩ : ∃ n, Hid (n = p.n) := ⟨_, rfl⟩
  have hnq' : Hid (q.n = n) := by rw [hnn.out]; unfold Pl.n; rw [hpq]; exact Lib.hid rfl
  obtain ⟨D, hD⟩ : ∃ D, Hid (D = upT (tab0 p.bs) n) := ⟨_, rfl⟩
  obtain ⟨U, hU⟩ : ∃ U, Hid (U = upT (tab0 q.bs) n) := ⟨_, rfl⟩
  have hDc : Hid (p.clo = D) := by rw [hD.out, hnn.out]; exact Lib.hid rfl
  have hUc : Hid (q.clo = U) := by rw [hU.out, ← hnq'.out]; exact Lib.hid rfl
  have hfar : Hid (∀ i j, D i j ≤ 100000) := fun i j => by rw [hD.out]; exact Int.le_trans (upT_le _ _ _ _) (tab0_le p.bs i j)
  have hfaru : Hid (∀ i j, U i j ≤ 100000) := fun i j => by rw [hU.out]; exact Int.le_trans (upT_le _ _ _ _) (tab0_le q.bs i j)
  have Q5 : Hid (BdsIn n (-2000) 2000 p.bs) := by rw [hnn.out]; exact Lib.hid (q5.wide (by decide) (by decide))
  have R5 : Hid (BdsIn n (-2000) 2000 q.bs) := by rw [← hnq'.out]; exact Lib.hid (r5.wide (by decide) (by decide))
  have Hf : Hid (p.commonOk q = (decide (p.pts ≤ 4) && (Pl.ofTab n (maxT D U)).ok)) := by unfold Pl.commonOk; rw [hf, hf2, decide_eq_true hpq, Bool.true_and, Bool.true_and, Bool.true_and, hDc.out, hUc.out, hnn.out]; exact Lib.hid rfl
  have Hp : Hid (p.pts = (n : Int)) := by rw [hnn.out]; exact Lib.hid q1'
  have Hq : Hid (q.pts = (n : Int)) := by rw [← Hp.out]; exact Lib.hid hpq.symm
  have hn1 : 1 ≤ n ∧ n ≤ 6 := by rw [hnn.out]; exact ⟨q2', q3'⟩
  have hff : Hid (p.fits = true ∧ q.fits = true) := Lib.hid ⟨hf, hf2⟩
  clear hf hf2 hfo hfo2 q1' q2' q3' q5 r1' r2' r3' r5 hpq
  rw [Hp.out] at A0
  rw [Hq.out] at B0
  have hne : ((n : Int) != (n : Int)) = false := by simp
  by_cases h4 : 4 < n
  · skip
    have Hf : Hid (p.commonOk q = false) := by rw [Hf.out, Hp.out, decide_eq_false (by omega)]; exact Lib.hid rfl
    have Hz : Hid (p.common q = Pl.zero) := Lib.hid (if_neg (by rw [Hf.out]; simp))
    obtain ⟨rc0, rz0⟩ := (A0).rules; have rl0 := (A0).lt
    obtain ⟨rc1, rz1⟩ := (B0).rules; have rl1 := (B0).lt
    obtain ⟨rc2, rz2⟩ := (R).rules; have rl2 := (R).lt
    go_wp2_with fail
    refine bodyPost_ret (v := .tuple #[.agg #[.int .i64 0, .slice none 0 0], .bool false]) (by simp [results, Try.results34, go_sem, *]) rfl ?_
    rw [Hf.out, Hz.out]
    exact ⟨_, rfl, Bds.nil _ _, ext_set (ext_set E (by dsimp only; omega) _) (by dsimp only; omega) _⟩
  have Hk : Hid (p.commonOk q = (Pl.ofTab n (maxT D U)).ok) := by rw [Hf.out, Hp.out, decide_eq_true (by omega), Bool.true_and]; exact Lib.hid rfl
  have Hk2 : Hid (p.common q = (Pl.ofTab n (maxT D U)).told) := by unfold Pl.common Pl.told; rw [Hk.out, hDc.out, hUc.out, hnn.out]; exact Lib.hid rfl
  clear Hf
  obtain ⟨rc0, rz0⟩ := (A0).rules; have rl0 := (A0).lt
  obtain ⟨rc1, rz1⟩ := (B0).rules; have rl1 := (B0).lt
  go_wp2_with fail
  refine (spec_l2Closed n _ p.bs _ (HP.out.ext E) hn1.2 Q5.out (by omega)).mono ?_
  rintro e w4 ⟨vt, ht, rfl, hG, hb4⟩
  obtain ⟨at_, ct, rfl, hct, hct2⟩ := hG.open
  have A0 := A0.ext hb4
  have B0 := B0.ext hb4
  have R := R.ext hb4
  have E := ext_trans E hb4
  have q4 := hb4.size
  have G := Lib.hid hG
  rw [← hD.out] at G
  clear rc0 rz0 rl0 rc1 rz1 rl1 hb4 hG
  obtain ⟨rc0, rz0⟩ := (A0).rules; have rl0 := (A0).lt
  obtain ⟨rc1, rz1⟩ := (B0).rules; have rl1 := (B0).lt
  go_wp2_with fail
  refine (spec_l2Closed n _ q.bs _ (HQ.out.ext E) hn1.2 R5.out (by omega)).mono ?_
  rintro e w5 ⟨vu, hu, rfl, hG, hb5⟩
  obtain ⟨au, cu, rfl, hcu, hcu2⟩ := hG.open
  have A0 := A0.ext hb5
  have B0 := B0.ext hb5
  have R := R.ext hb5
  have E := ext_trans E hb5
  have q5 := hb5.size
  have G := Lib.hid (G.out.ext hb5)
  have GU := Lib.hid hG
  rw [← hU.out] at GU
  clear rc0 rz0 rl0 rc1 rz1 rl1 hb5 hG
  obtain ⟨rc0, rz0⟩ := (A0).rules; have rl0 := (A0).lt
  go_upto_region 6 with fail
  obtain ⟨w7, hw7, O, hs7, hb⟩ := one_box w5 #[.int .i64 n, .slice none 0 0] 29
  rw [← hw7.out]
  clear rc0 rz0 rl0
  go_wp2_with fail
  go_loopg [9] n (fun m ii wr => ∃ (i : Nat) (tl : List Bd) (vo : Value), i ≤ n ∧ m = n - i ∧ ii = .int .i64 i ∧ Hid (tl = tbAll (maxT D U) n i) ∧ Box wr w5.heap.size 29 #[.int .i64 n, vo] ∧ Hid (Bds wr (w5.heap.size + 1) vo tl) ∧ Below w5.heap.size w5 wr)
  case atStart => exact ⟨0, [], .slice none 0 0, by omega, by omega, rfl, Lib.hid rfl, O, Lib.hid (Bds.nil _ _), hb⟩
  case round =>
    clear O hb
    obtain ⟨i, tl, vo, hi, hgk, rfl, htl, O, T, hb⟩ := hrel
    have Hi := Lib.hid hgk
    clear hgk
    have A1 := A0.ext hb
    obtain ⟨rc0, rz0⟩ := (A1).rules; have rl0 := (A1).lt
    by_cases hlt : i < n
    · go_wp2_with fail
      go_loopg [10] n (fun m jj wx => ∃ (j : Nat) (tl2 : List Bd) (vo2 : Value), j ≤ n ∧ m = n - j ∧ jj = .int .i64 j ∧ Hid (tl2 = tbAll (maxT D U) n i ++ tbRow (maxT D U) i j) ∧ Box wx w5.heap.size 29 #[.int .i64 n, vo2] ∧ Hid (Bds wx (w5.heap.size + 1) vo2 tl2) ∧ Below w5.heap.size w5 wx)
      case atStart => exact ⟨0, tl, vo, by omega, by omega, rfl, Lib.hid (by rw [htl.out]; simp [tbRow]), O, T, hb⟩
      case round =>
        rename World => wy
        clear O T hb htl rc0 rz0 rl0 A1
        obtain ⟨j, tl2, vo2, hj, hgk, rfl, htl2, O, T, hb⟩ := hrel
        have Hj := Lib.hid hgk
        clear hgk
        have A1 := A0.ext hb
        obtain ⟨rc0, rz0⟩ := (A1).rules; have rl0 := (A1).lt
        by_cases hlj : j < n
        · skip
          obtain ⟨gda, ada, cda, haga, _, hgda, _, hOda, hcda, hcd2a, hrda⟩ := G.out.head hlt
          subst haga
          have hl1a : (rowOf n (D i)).length = n := rowOf_length _ _
          obtain ⟨g1a, ha1a, _, hg1a, _, k1a⟩ := hrda.at_ (j := j) (by omega)
          subst ha1a
          rw [rowOf_getD _ _ _ hlj] at k1a
          obtain ⟨xa, Hxa⟩ : ∃ x, Hid (x = D i j) := ⟨_, rfl⟩
          rw [← Hxa.out] at k1a
          have hOda := (hb.cell (by exact hgda)).trans hOda
          have k1a := (hb.cell (by exact hg1a)).trans k1a
          have hgda := Nat.lt_of_lt_of_le hgda hb.size
          have hg1a := Nat.lt_of_lt_of_le hg1a hb.size
          clear hl1a hrda
          obtain ⟨gdb, adb, cdb, hagb, _, hgdb, _, hOdb, hcdb, hcd2b, hrdb⟩ := GU.out.head hlt
          subst hagb
          have hl1b : (rowOf n (U i)).length = n := rowOf_length _ _
          obtain ⟨g1b, ha1b, _, hg1b, _, k1b⟩ := hrdb.at_ (j := j) (by omega)
          subst ha1b
          rw [rowOf_getD _ _ _ hlj] at k1b
          obtain ⟨xb, Hxb⟩ : ∃ x, Hid (x = U i j) := ⟨_, rfl⟩
          rw [← Hxb.out] at k1b
          have hOdb := (hb.cell (by exact hgdb)).trans hOdb
          have k1b := (hb.cell (by exact hg1b)).trans k1b
          have hgdb := Nat.lt_of_lt_of_le hgdb hb.size
          have hg1b := Nat.lt_of_lt_of_le hg1b hb.size
          clear hl1b hrdb
          have Hm : Hid (maxT D U i j = max xa xb) := by rw [Hxa.out, Hxb.out]; exact Lib.hid rfl
          have hlen : tl2.length ≤ 42 := by
            rw [htl2.out, List.length_append]
            have := tbAll_length (maxT D U) hn1.2 i
            have := tbRow_length (maxT D U) i j
            omega
          have hfa : xa ≤ 100000 := by rw [Hxa.out]; exact hfar.out i j
          have hfb : xb ≤ 100000 := by rw [Hxb.out]; exact hfaru.out i j
          go_wp2_with fail
          by_cases hmx : xb ≤ xa
          · have Hmx : Hid (maxT D U i j = xa) := by rw [Hm.out, Int.max_eq_left hmx]; exact Lib.hid rfl
            go_quiet (fail)
            have O := O.ext (ext_drewNc wy nq)
            have T := Lib.hid (T.out.ext (ext_drewNc wy nq))
            have hb := ext_trans hb (ext_drewNc wy nq)
            obtain ⟨wr, hwr⟩ : ∃ wr, Hid (wr = wy.drewN nq) := ⟨_, rfl⟩
            rw [← hwr.out] at O T hb ⊢
            by_cases hij : i = j
            · have hsame : Hid (tbRow (maxT D U) i (j+1) = tbRow (maxT D U) i j) := Lib.hid (tbRow_same (.inl hij))
              have hne : ((i : Int) != (j : Int)) = false := by simp [hij]
              clear hij
              go_wp2_with fail
              go_roundg (n - (j+1))
              case rel => exact ⟨j+1, tl2, vo2, by omega, rfl, by go_num, Lib.hid (by rw [hsame.out]; exact htl2.out), O, T, hb⟩
              case measure => have := Hj.out; omega
            · have hne : ((i : Int) != (j : Int)) = true := by simp; omega
              have Hij := Lib.hid hij
              clear hij
              by_cases hx1 : xa < 100000
              · have hmore : Hid (tbRow (maxT D U) i (j+1) = tbRow (maxT D U) i j ++ [⟨i, j, xa⟩]) := by
                  rw [tbRow_more Hij.out (by rw [Hmx.out]; omega), Hmx.out]; exact Lib.hid rfl
                have hxd : decide (xa < 100000) = true := decide_eq_true hx1
                clear hx1
                obtain ⟨ao, co, rfl, -⟩ := T.out.open
                go_upto_region 14 with fail
                clear rc0 rz0 rl0
                obtain ⟨rc1, rz1⟩ := (O).rules; have rl1 := (O).lt
                go_wp2_with (at_builtin; refine wpl_appB _ rfl (.tmp 75) (.tmp 80) rfl (w5.heap.size + 1) 0 (.slice ao tl2.length co) tl2 rfl (T.out.alloc _) (.slice (some ⟨wr.heap.size, 0, none⟩) 1 1) [⟨i, j, xa⟩] rfl ((Bds.lit wr ⟨i, j, xa⟩).base (Nat.zero_le _)) (by simp; omega) (by simp; omega) ?_; intro v9 w9 hv9 hg9; obtain ⟨a9, c9, rfl, -⟩ := hv9.open; have O9 := (O.alloc (.cells #[.int .i64 i, .int .i64 j, .int .i64 xa] 40)).grown hg9 (fun e => by have := (T.out.lt _ e.symm).1; omega); have hb9 := ext_grown (ext_alloc hb (.cells #[.int .i64 i, .int .i64 j, .int .i64 xa] 40)) hg9 (fun q hq => by have := (T.out.lt q hq).1; omega); clear rc1 rz1 rl1; obtain ⟨rc1, rz1⟩ := O9.rules; have rl1 := O9.lt)
                go_roundg (n - (j+1))
                case rel =>
                  have hv := hv9
                  rw [List.length_append, List.length_singleton] at hv
                  have hvs := Lib.hid (hv.low (p := ⟨w5.heap.size, 1, none⟩) (by dsimp only; omega) (.slice a9 (tl2.length + 1) c9))
                  refine ⟨j+1, tl2 ++ [(⟨(i : Int), (j : Int), xa⟩ : Bd)], .slice a9 (tl2.length + 1) c9, by omega, rfl, by go_num, Lib.hid ?_, O9.set 1 (.slice a9 (tl2.length + 1) c9), hvs, ext_set hb9 (by dsimp only; omega) _⟩
                  rw [hmore.out, ← List.append_assoc, ← htl2.out]
                case measure => have := Hj.out; omega
              · have hsame : Hid (tbRow (maxT D U) i (j+1) = tbRow (maxT D U) i j) := Lib.hid (tbRow_same (.inr (by rw [Hmx.out]; omega)))
                have hxd : decide (xa < 100000) = false := decide_eq_false hx1
                clear hx1
                go_wp2_with fail
                go_roundg (n - (j+1))
                case rel => exact ⟨j+1, tl2, vo2, by omega, rfl, by go_num, Lib.hid (by rw [hsame.out]; exact htl2.out), O, T, hb⟩
                case measure => have := Hj.out; omega
          · have Hmx : Hid (maxT D U i j = xb) := by rw [Hm.out, Int.max_eq_right (by omega)]; exact Lib.hid rfl
            go_quiet (fail)
            have O := O.ext (ext_drewNc wy nq)
            have T := Lib.hid (T.out.ext (ext_drewNc wy nq))
            have hb := ext_trans hb (ext_drewNc wy nq)
            obtain ⟨wr, hwr⟩ : ∃ wr, Hid (wr = wy.drewN nq) := ⟨_, rfl⟩
            rw [← hwr.out] at O T hb ⊢
            by_cases hij : i = j
            · have hsame : Hid (tbRow (maxT D U) i (j+1) = tbRow (maxT D U) i j) := Lib.hid (tbRow_same (.inl hij))
              have hne : ((i : Int) != (j : Int)) = false := by simp [hij]
              clear hij
              go_wp2_with fail
              go_roundg (n - (j+1))
              case rel => exact ⟨j+1, tl2, vo2, by omega, rfl, by go_num, Lib.hid (by rw [hsame.out]; exact htl2.out), O, T, hb⟩
              case measure => have := Hj.out; omega
            · have hne : ((i : Int) != (j : Int)) = true := by simp; omega
              have Hij := Lib.hid hij
              clear hij
              by_cases hx1 : xb < 100000
              · have hmore : Hid (tbRow (maxT D U) i (j+1) = tbRow (maxT D U) i j ++ [⟨i, j, xb⟩]) := by
                  rw [tbRow_more Hij.out (by rw [Hmx.out]; omega), Hmx.out]; exact Lib.hid rfl
                have hxd : decide (xb < 100000) = true := decide_eq_true hx1
                clear hx1
                obtain ⟨ao, co, rfl, -⟩ := T.out.open
                go_upto_region 14 with fail
                clear rc0 rz0 rl0
                obtain ⟨rc1, rz1⟩ := (O).rules; have rl1 := (O).lt
                go_wp2_with (at_builtin; refine wpl_appB _ rfl (.tmp 75) (.tmp 80) rfl (w5.heap.size + 1) 0 (.slice ao tl2.length co) tl2 rfl (T.out.alloc _) (.slice (some ⟨wr.heap.size, 0, none⟩) 1 1) [⟨i, j, xb⟩] rfl ((Bds.lit wr ⟨i, j, xb⟩).base (Nat.zero_le _)) (by simp; omega) (by simp; omega) ?_; intro v9 w9 hv9 hg9; obtain ⟨a9, c9, rfl, -⟩ := hv9.open; have O9 := (O.alloc (.cells #[.int .i64 i, .int .i64 j, .int .i64 xb] 40)).grown hg9 (fun e => by have := (T.out.lt _ e.symm).1; omega); have hb9 := ext_grown (ext_alloc hb (.cells #[.int .i64 i, .int .i64 j, .int .i64 xb] 40)) hg9 (fun q hq => by have := (T.out.lt q hq).1; omega); clear rc1 rz1 rl1; obtain ⟨rc1, rz1⟩ := O9.rules; have rl1 := O9.lt)
                go_roundg (n - (j+1))
                case rel =>
                  have hv := hv9
                  rw [List.length_append, List.length_singleton] at hv
                  have hvs := Lib.hid (hv.low (p := ⟨w5.heap.size, 1, none⟩) (by dsimp only; omega) (.slice a9 (tl2.length + 1) c9))
                  refine ⟨j+1, tl2 ++ [(⟨(i : Int), (j : Int), xb⟩ : Bd)], .slice a9 (tl2.length + 1) c9, by omega, rfl, by go_num, Lib.hid ?_, O9.set 1 (.slice a9 (tl2.length + 1) c9), hvs, ext_set hb9 (by dsimp only; omega) _⟩
                  rw [hmore.out, ← List.append_assoc, ← htl2.out]
                case measure => have := Hj.out; omega
              · have hsame : Hid (tbRow (maxT D U) i (j+1) = tbRow (maxT D U) i j) := Lib.hid (tbRow_same (.inr (by rw [Hmx.out]; omega)))
                have hxd : decide (xb < 100000) = false := decide_eq_false hx1
                clear hx1
                go_wp2_with fail
                go_roundg (n - (j+1))
                case rel => exact ⟨j+1, tl2, vo2, by omega, rfl, by go_num, Lib.hid (by rw [hsame.out]; exact htl2.out), O, T, hb⟩
                case measure => have := Hj.out; omega
        · have hjn : j = n := by omega
          have hrow : Hid (tl2 = tbAll (maxT D U) n (i+1)) := by rw [htl2.out, hjn]; exact Lib.hid rfl
          clear hjn htl2
          go_wp2_with fail
          go_roundg (n - (i+1))
          case rel => exact ⟨i+1, tl2, vo2, by omega, rfl, by go_num, hrow, O, T, hb⟩
          case measure => have := Hi.out; omega
    · have hin : i = n := by omega
      have hall : Hid (tl = (Pl.ofTab n (maxT D U)).bs) := by rw [htl.out, hin]; exact Lib.hid rfl
      clear hin htl
      obtain ⟨ao, co, rfl, -⟩ := T.out.open
      rw [hall.out] at T O
      obtain ⟨P, hP⟩ : ∃ P, Hid (P = Pl.ofTab n (maxT D U)) := ⟨_, rfl⟩
      have hPp : Hid (P.pts = (n : Int)) := by rw [hP.out]; exact Lib.hid rfl
      rw [← hP.out] at T O Hk Hk2
      rw [← hPp.out] at O
      clear hall
      obtain ⟨rc1, rz1⟩ := (O).rules; have rl1 := (O).lt
      go_wp2_with fail
      refine (spec_PlanOk P _ _ (T.out.base (Nat.zero_le _))).mono ?_
      rintro e w8 ⟨rfl, hb6⟩
      have O := O.ext hb6
      have T := Lib.hid (T.out.ext hb6)
      have hb := ext_trans hb hb6
      have R1 := R.ext hb
      have E1 := ext_trans E hb
      clear rc0 rz0 rl0 rc1 rz1 rl1 hb6
      obtain ⟨rc1, rz1⟩ := (O).rules; have rl1 := (O).lt
      obtain ⟨rc2, rz2⟩ := (R1).rules; have rl2 := (R1).lt
      cases hok : P.ok
      · have Hz : Hid (P.told = Pl.zero) := Lib.hid (if_neg (by rw [hok]; simp))
        have Hk3 : Hid (p.commonOk q = false) := by rw [Hk.out, hok]; exact Lib.hid rfl
        clear hok
        go_wp2_with fail
        refine bodyPost_ret (v := .tuple #[.agg #[.int .i64 0, .slice none 0 0], .bool false]) (by simp [results, Try.results34, go_sem, *]) rfl ?_
        rw [Hk3.out, Hk2.out, Hz.out]
        exact ⟨_, rfl, Bds.nil _ _, ext_set (ext_set E1 (by dsimp only; omega) _) (by dsimp only; omega) _⟩
      · have Hz : Hid (P.told = P) := Lib.hid (if_pos hok)
        have Hk3 : Hid (p.commonOk q = true) := by rw [Hk.out, hok]; exact Lib.hid rfl
        clear hok
        go_wp2_with fail
        refine bodyPost_ret (v := .tuple #[.agg #[.int .i64 P.pts, .slice ao P.bs.length co], .bool true]) (by simp [results, Try.results34, go_sem, *]) rfl ?_
        rw [Hk3.out, Hk2.out, Hz.out]
        refine ⟨_, rfl, ?_, ext_set (ext_set E1 (by dsimp only; omega) _) (by dsimp only; omega) _⟩
        have h1 := T.out.low (p := ⟨w.heap.size + 1 + 1, 0, none⟩) (by dsimp only; omega) (.int .i64 P.pts)
        have h2 := h1.low (p := ⟨w.heap.size + 1 + 1, 1, none⟩) (by dsimp only; omega) (.slice ao P.bs.length co)
        exact h2.base (by omega)
end Go.Proofs.Ytpccfkbpnfbdaaa
