/- The walks of spec.ReadyOk, spec.DeadlineOf and spec.GoesOnOk. Conditions: the bounds and the times can be read; of the first two: the state is one. -/
import Derived.Test.YtffcfambgcaikaaStateS
import Derived.Test.YtffcfambgcaikaaGoesI
import Derived.Test.YtffcfambgcaikaaPlanOut
namespace Go.Proofs.Ytffcfambgcaikaa
open Go.RowKit
set_option linter.unusedVariables false
set_option linter.unusedSimpArgs false
set_option maxRecDepth 100000 in
set_option maxHeartbeats 4000000 in
theorem spec_ReadyOk (p : Pl) (bs dv : Value) (now : Int) (d : List Int) (k : Nat) (w : World) (hv : Bds w 0 bs p.bs) (hd : Ints w 0 dv d) (hst : p.stOk now d = true) (hk : k < p.n) :
    Calls Try.prog 48 #[.agg #[.int .i64 p.pts, bs], .agg #[.int .i64 now, dv], .int .i64 k] w fun e w' => e = .returned (.bool (readyAt p.clo d p.n k)) ∧ Below w.heap.size w w' := by
  have V := Lib.hid hv
  have D := Lib.hid hd
  have Hst := Lib.hid hst
  obtain ⟨s1, s2, s3, s4, s5⟩ := st_in hst
  have hfo := fits_ok s1
  obtain ⟨q1, q2, q3, q4, q5⟩ := plok_in hfo.1
  have Hfit := Lib.hid s1
  have Q5 := Lib.hid q5
  obtain ⟨n, hnn⟩ : ∃ n, Hid (n = p.n) := ⟨_, rfl⟩
  have Hl : Hid (d.length = n) := by rw [hnn.out]; exact Lib.hid s2
  have Hp : Hid (p.pts = (n : Int)) := by rw [hnn.out]; exact Lib.hid q1
  rw [← hnn.out] at q2 q3
  obtain ⟨a, c, rfl, hn, hc, -⟩ := hv.open
  obtain ⟨ad, cd, rfl, hnd, hcd, -⟩ := hd.open
  rw [Hl.out] at hnd
  have hbl16 := q4
  clear hv hd hst s1 s2 s3 s4 s5 hfo q1 q4 q5
  rw [← hnn.out] at hk ⊢
  go_enter Try.func48, Try.ntmps48
  go_wp2_with fail
  rw [Hl.out]
  obtain ⟨W, hW, A0, B0, hs, E⟩ := two_boxes w #[.int .i64 p.pts, .slice a p.bs.length c] #[.int .i64 now, .slice ad n cd] 25 43
  rw [← hW.out]
  obtain ⟨rc0, rz0⟩ := (A0).rules; have rl0 := (A0).lt
  obtain ⟨rc1, rz1⟩ := (B0).rules; have rl1 := (B0).lt
  go_wp2_with fail
  refine (spec_WindowOf p _ _ now d k _ (V.out.ext E) (show Ints W 0 (.slice ad n cd) d by rw [← Hl.out]; exact D.out.ext E) Hst.out (by rw [← hnn.out]; exact hk)).mono ?_
  rintro e w1 ⟨lo, hi, rfl, -, hb1⟩
  clear rc0 rz0 rl0 rc1 rz1 rl1
  have A0 := A0.ext hb1
  have B0 := B0.ext hb1
  have E := ext_trans E hb1
  rw [Hp.out] at A0
  obtain ⟨rc0, rz0⟩ := (A0).rules; have rl0 := (A0).lt
  obtain ⟨rc1, rz1⟩ := (B0).rules; have rl1 := (B0).lt
  by_cases ho : ¬ dA d k = -1
  · rw [show decide (dA d k = -1) = false from decide_eq_false ho]
    have Hf : Hid (readyAt p.clo d n k = false) := by simp [readyAt, ho]; exact Lib.hid trivial
    clear ho
    go_wp2_with fail
    go_ret
    exact ⟨by rw [Hf.out]; rfl, E⟩
  have ho := Decidable.not_not.1 ho
  have Hf : Hid (readyAt p.clo d n k = readyTo p.clo d k n) := by simp [readyAt, ho]; exact Lib.hid trivial
  rw [show decide (dA d k = -1) = true from decide_eq_true ho]
  clear ho
  go_wp2_with fail
  refine (spec_l2Closed n _ p.bs _ (V.out.ext E) q3 (show BdsIn n (-2000) 2000 p.bs by rw [hnn.out]; exact Q5.out.wide (by decide) (by decide)) (by omega)).mono ?_
  rintro e w3 ⟨vt, ht, rfl, hG, hb3⟩
  obtain ⟨Dt, hDt⟩ : ∃ D, Hid (D = p.clo) := ⟨_, rfl⟩
  have G : Hid (TabG w3 0 n n vt ht Dt) := by rw [hDt.out]; rw [hnn.out] at hG ⊢; exact Lib.hid (hG.base (Nat.zero_le _))
  have Hf : Hid (readyAt p.clo d n k = readyTo Dt d k n) := by rw [hDt.out]; exact Hf
  clear hG
  obtain ⟨at_, ct, rfl, hct, hct2⟩ := G.out.open
  clear rc0 rz0 rl0 rc1 rz1 rl1
  have B0 := B0.ext hb3
  have E := ext_trans E hb3
  have Dr : Hid (Ints w3 0 (.slice ad n cd) d) := by rw [← Hl.out]; exact Lib.hid (D.out.ext E)
  obtain ⟨rc1, rz1⟩ := (B0).rules; have rl1 := (B0).lt
  go_wp2_with fail
  go_loopg [11] n (fun m kk wr => ∃ j : Nat, j ≤ n ∧ m = n - j ∧ kk = .int .i64 j ∧ wr = w3 ∧ Hid (readyTo Dt d k j = true))
  case atStart => exact ⟨0, by omega, by omega, rfl, rfl, Lib.hid (readyTo_iff.2 fun i hi => by omega)⟩
  case round =>
    obtain ⟨j, hj, hgk, rfl, rfl, Hr⟩ := hrel
    have Hj := Lib.hid hgk
    clear hgk
    by_cases hlj : j < n
    · obtain ⟨gx, hag, -, hg, -, cx⟩ := Dr.out.at_ (j := j) (by rw [Hl.out]; exact hlj)
      subst hag
      obtain ⟨x, hx⟩ : ∃ x, Hid (x = dA d j) := ⟨_, rfl⟩
      rw [show d.getD j 0 = x from hx.out.symm] at cx
      obtain ⟨gt, ai, ci, hag, _, hgt, _, hOi, hci, hci2, hri⟩ := G.out.head hk
      subst hag
      have e1 : (rowOf n (Dt k)).length = n := rowOf_length _ _
      obtain ⟨gi, hai, _, hgi, _, cy⟩ := hri.at_ (j := j) (by omega)
      subst hai
      rw [rowOf_getD _ _ _ hlj] at cy
      obtain ⟨y, hy⟩ : ∃ x, Hid (x = Dt k j) := ⟨_, rfl⟩
      rw [← hy.out] at cy
      clear e1 hri
      by_cases hx1 : x = -1
      · have hxb : (x == -1) = true := by simp [hx1]
        have Hx : Hid (dA d j = -1) := by rw [← hx.out]; exact Lib.hid hx1
        have Hx1 := Lib.hid hx1
        clear hx1
        by_cases hy0 : y < 0
        · have Hg : Hid (readyTo Dt d k n = false) := by
            cases h : readyTo Dt d k n
            · exact Lib.hid rfl
            · have := readyTo_iff.1 h j hlj Hx.out; rw [← hy.out] at this; omega
          go_wp2_with fail
          go_ret
          exact ⟨by rw [Hf.out, Hg.out]; rfl, E⟩
        · go_wp2_with fail
          go_roundg (n - (j+1))
          case rel =>
            refine ⟨j+1, by omega, rfl, by go_num, rfl, Lib.hid (readyTo_iff.2 fun i hi hd => ?_)⟩
            by_cases e : i = j
            · subst e; rw [← hy.out]; omega
            · exact readyTo_iff.1 Hr.out i (by omega) hd
          case measure => have := Hj.out; omega
      · have hxb : (x == -1) = false := by simp [hx1]
        have Hx : Hid (¬ dA d j = -1) := by rw [← hx.out]; exact Lib.hid hx1
        have Hx1 := Lib.hid hx1
        clear hx1
        go_wp2_with fail
        go_roundg (n - (j+1))
        case rel =>
          refine ⟨j+1, by omega, rfl, by go_num, rfl, Lib.hid (readyTo_iff.2 fun i hi hd => ?_)⟩
          by_cases e : i = j
          · subst e; exact absurd hd Hx.out
          · exact readyTo_iff.1 Hr.out i (by omega) hd
        case measure => have := Hj.out; omega
    · have hkn : n = j := by omega
      subst hkn
      go_wp2_with fail
      go_ret
      exact ⟨by rw [Hf.out, Hr.out]; rfl, E⟩
set_option maxRecDepth 100000 in
set_option maxHeartbeats 4000000 in
theorem spec_DeadlineOf (p : Pl) (bs dv : Value) (now : Int) (d : List Int) (w : World) (hv : Bds w 0 bs p.bs) (hd : Ints w 0 dv d) (hst : p.stOk now d = true) :
    Calls Try.prog 71 #[.agg #[.int .i64 p.pts, bs], .agg #[.int .i64 now, dv]] w fun e w' => e = .returned (.int .i64 (deadTo p.clo d p.n p.n)) ∧ Below w.heap.size w w' := by
  have V := Lib.hid hv
  have D := Lib.hid hd
  have Hst := Lib.hid hst
  obtain ⟨s1, s2, s3, s4, s5⟩ := st_in hst
  have hfo := fits_ok s1
  obtain ⟨q1, q2, q3, q4, q5⟩ := plok_in hfo.1
  have Hfit := Lib.hid s1
  have Q5 := Lib.hid q5
  obtain ⟨n, hnn⟩ : ∃ n, Hid (n = p.n) := ⟨_, rfl⟩
  have Hl : Hid (d.length = n) := by rw [hnn.out]; exact Lib.hid s2
  have Hp : Hid (p.pts = (n : Int)) := by rw [hnn.out]; exact Lib.hid q1
  rw [← hnn.out] at q2 q3
  obtain ⟨a, c, rfl, hn, hc, -⟩ := hv.open
  obtain ⟨ad, cd, rfl, hnd, hcd, -⟩ := hd.open
  rw [Hl.out] at hnd
  have hbl16 := q4
  clear hv hd hst s1 s2 s3 s4 s5 hfo q1 q4 q5
  rw [← hnn.out]
  go_enter Try.func71, Try.ntmps71
  go_wp2_with fail
  rw [Hl.out]
  obtain ⟨W, hW, A0, B0, hs, E⟩ := two_boxes w #[.int .i64 p.pts, .slice a p.bs.length c] #[.int .i64 now, .slice ad n cd] 25 43
  rw [← hW.out]
  obtain ⟨rc0, rz0⟩ := (A0).rules; have rl0 := (A0).lt
  obtain ⟨rc1, rz1⟩ := (B0).rules; have rl1 := (B0).lt
  go_wp2_with fail
  refine (spec_StateOk p _ _ now d _ (V.out.ext E) (show Ints W 0 (.slice ad n cd) d by rw [← Hl.out]; exact D.out.ext E)).mono ?_
  rintro e w1 ⟨rfl, hb1⟩
  rw [Hst.out]
  clear rc0 rz0 rl0 rc1 rz1 rl1
  have A0 := A0.ext hb1
  have B0 := B0.ext hb1
  have E := ext_trans E hb1
  rw [Hp.out] at A0
  obtain ⟨rc0, rz0⟩ := (A0).rules; have rl0 := (A0).lt
  obtain ⟨rc1, rz1⟩ := (B0).rules; have rl1 := (B0).lt
  go_wp2_with fail
  refine (spec_l2Closed n _ p.bs _ (V.out.ext E) q3 (show BdsIn n (-2000) 2000 p.bs by rw [hnn.out]; exact Q5.out.wide (by decide) (by decide)) (by omega)).mono ?_
  rintro e w3 ⟨vt, ht, rfl, hG, hb3⟩
  obtain ⟨Dt, hDt⟩ : ∃ D, Hid (D = p.clo) := ⟨_, rfl⟩
  have G : Hid (TabG w3 0 n n vt ht Dt) := by rw [hDt.out]; rw [hnn.out] at hG ⊢; exact Lib.hid (hG.base (Nat.zero_le _))
  have HT : Hid ((∀ i j, i < n → j < n → -6336 ≤ Dt i j ∧ Dt i j ≤ 100000) ∧ ∀ k, k < n → -1 ≤ dA d k ∧ dA d k ≤ 2000) := by rw [hDt.out, hnn.out]; exact Lib.hid (st_table Hst.out)
  clear hG
  clear rc0 rz0 rl0 rc1 rz1 rl1
  have B0 := B0.ext hb3
  have E := ext_trans E hb3
  have Dr : Hid (Ints w3 0 (.slice ad n cd) d) := by rw [← Hl.out]; exact Lib.hid (D.out.ext E)
  obtain ⟨rc1, rz1⟩ := (B0).rules; have rl1 := (B0).lt
  go_wp2_with fail
  clear rc1 rz1 rl1
  go_loopg [5, 7] n (fun m bb kk wr => ∃ j : Nat, j ≤ n ∧ m = n - j ∧ kk = .int .i64 j ∧ bb = .int .i64 (deadTo Dt d n j) ∧ Below w3.heap.size w3 wr)
  case atStart => exact ⟨0, by omega, by omega, rfl, rfl, ext_refl _⟩
  case round =>
    obtain ⟨j, hj, hgk, rfl, rfl, hb⟩ := hrel
    have Hj := Lib.hid hgk
    clear hgk
    obtain ⟨z, hz⟩ : ∃ x, Hid (x = deadTo Dt d n j) := ⟨_, rfl⟩
    rw [← hz.out]
    have B1 := B0.ext hb
    obtain ⟨rc1, rz1⟩ := (B1).rules; have rl1 := (B1).lt
    by_cases hlj : j < n
    · obtain ⟨gx, hag, -, hg, -, cx⟩ := (Dr.out.ext hb).at_ (j := j) (by rw [Hl.out]; exact hlj)
      subst hag
      obtain ⟨x, hx⟩ : ∃ x, Hid (x = dA d j) := ⟨_, rfl⟩
      rw [show d.getD j 0 = x from hx.out.symm] at cx
      by_cases hx1 : x = -1
      · have hxb : (x == -1) = true := by simp [hx1]
        obtain ⟨y, hy⟩ : ∃ x, Hid (x = winHigh Dt d j n) := ⟨_, rfl⟩
        have hnx : Hid (deadTo Dt d n (j+1) = min z y) := by rw [deadTo_succ, if_pos (hx.out.symm.trans hx1), ← hz.out, ← hy.out]; exact Lib.hid rfl
        have Hx1 := Lib.hid hx1
        clear hx1
        go_wp2_with fail
        refine (spec_l6Window n now d Dt _ vt ht j _ (Dr.out.ext hb) Hl.out (G.out.ext hb) hlj q3 HT.out.1 HT.out.2).mono ?_
        rintro e w4 ⟨rfl, hb4⟩
        have hb := ext_trans hb hb4
        rw [← hy.out]
        clear rc1 rz1 rl1 cx
        by_cases hzy : z ≤ y
        · rw [Int.min_eq_left hzy] at hnx
          go_wp2_with fail
          go_roundg (n - (j+1))
          case rel => exact ⟨j+1, by omega, rfl, by go_num, by rw [hnx.out], hb⟩
          case measure => have := Hj.out; omega
        · rw [Int.min_eq_right (by omega)] at hnx
          go_wp2_with fail
          go_roundg (n - (j+1))
          case rel => exact ⟨j+1, by omega, rfl, by go_num, by rw [hnx.out], hb⟩
          case measure => have := Hj.out; omega
      · have hxb : (x == -1) = false := by simp [hx1]
        have hnx : Hid (deadTo Dt d n (j+1) = z) := by rw [deadTo_succ, if_neg (fun h => hx1 (hx.out.trans h)), ← hz.out]; exact Lib.hid rfl
        have Hx1 := Lib.hid hx1
        clear hx1
        go_wp2_with fail
        go_roundg (n - (j+1))
        case rel => exact ⟨j+1, by omega, rfl, by go_num, by rw [hnx.out], hb⟩
        case measure => have := Hj.out; omega
    · have hkn : n = j := by omega
      subst hkn
      go_wp2_with fail
      go_ret
      exact ⟨by rw [hz.out, hDt.out]; rfl, ext_trans E hb⟩
theorem goes_yesS {p : Pl} {now : Int} {d : List Int} {n : Nat} (h : p.stOk now d = true) (hn : n = p.n) : p.goes now d = fitB (upT (tab0 (p.bs ++ stB now d n)) n) n := by
  subst hn
  simp only [Pl.goes, h, Bool.true_and, (st_in h).2.1]
set_option maxRecDepth 100000 in
set_option maxHeartbeats 8000000 in
theorem spec_GoesOnOk (p : Pl) (bs dv : Value) (now : Int) (d : List Int) (w : World) (hv : Bds w 0 bs p.bs) (hd : Ints w 0 dv d) :
    Calls Try.prog 70 #[.agg #[.int .i64 p.pts, bs], .agg #[.int .i64 now, dv]] w fun e w' => e = .returned (.bool (p.goes now d)) ∧ Below w.heap.size w w' := by
  have V := Lib.hid hv
  have D := Lib.hid hd
  obtain ⟨i0, hi, hz0, hz1, hz2⟩ := info_parts info_bound
  have Hi := Lib.hid hi; have Hz0 := Lib.hid hz0; have Hz1 := Lib.hid hz1; have Hz2 := Lib.hid hz2
  obtain ⟨a, c, rfl, hn, hc, -⟩ := hv.open
  obtain ⟨ad, cd, rfl, hnd, hcd, -⟩ := hd.open
  clear hv hd hi hz0 hz1 hz2
  go_enter Try.func70, Try.ntmps70
  go_wp2_with fail
  obtain ⟨W, hW, A0, B0, hs, E⟩ := two_boxes w #[.int .i64 p.pts, .slice a p.bs.length c] #[.int .i64 now, .slice ad d.length cd] 25 43
  rw [← hW.out]
  obtain ⟨rc0, rz0⟩ := (A0).rules; have rl0 := (A0).lt
  obtain ⟨rc1, rz1⟩ := (B0).rules; have rl1 := (B0).lt
  go_wp2_with fail
  refine (spec_StateOk p _ _ now d _ (V.out.ext E) (D.out.ext E)).mono ?_
  rintro e w1 ⟨rfl, hb1⟩
  clear rc0 rz0 rl0 rc1 rz1 rl1
  have A0 := A0.ext hb1
  have B0 := B0.ext hb1
  have E := ext_trans E hb1
  have q1 := hb1.size
  cases hst : p.stOk now d
  · have Hf := Lib.hid (goes_no hst)
    clear hst
    go_wp2_with fail
    go_ret
    exact ⟨by rw [Hf.out]; rfl, E⟩
  obtain ⟨s1, s2, s3, s4, s5⟩ := st_in hst
  have hfo := fits_ok s1
  obtain ⟨p1, p2, p3, p4, -⟩ := plok_in hfo.1
  obtain ⟨n, hnn⟩ : ∃ n, Hid (n = p.n) := ⟨_, rfl⟩
  have Hl : Hid (d.length = n) := by rw [hnn.out]; exact Lib.hid s2
  have Hst := Lib.hid hst
  have Hp : Hid (p.pts = (n : Int)) := by rw [hnn.out]; exact Lib.hid p1
  have Hdv : Hid (∀ k, k < n → -1 ≤ dA d k ∧ dA d k ≤ 2000) := by rw [hnn.out]; exact Lib.hid (fun k hk => by have := s5 k hk; omega)
  rw [Hl.out] at hnd B0 ⊢
  rw [Hp.out] at A0 ⊢
  rw [← hnn.out] at p2 p3
  have V1 : Hid (Bds w1 0 (.slice a p.bs.length c) p.bs) := Lib.hid (V.out.ext E)
  have D1 : Hid (Ints w1 0 (.slice ad n cd) d) := by rw [← Hl.out]; exact Lib.hid (D.out.ext E)
  have E1 := E
  clear hst s1 s2 s4 s5 hfo p1
  go_upto_region 3 with fail
  go_cut [5] (fun v5 wx => OutPlan w1 ⟨(n : Int), p.bs⟩ v5 wx)
  case first =>
    refine wp_region_tail 8 (by kernel_rfl) (by kernel_rfl) (fun w' => w'.cell? ⟨w.heap.size, 0, none⟩ = some (.int .i64 n) ∧ w'.cell? ⟨w.heap.size, 1, none⟩ = some (.slice a p.bs.length c)) ⟨A0.cell0 rfl, A0.cell0 rfl⟩ ?_
    intro hHeld
    obtain ⟨D2, hD⟩ : ∃ D, Hid (D = w1.drew) := ⟨_, rfl⟩
    have E := ext_drew (ext_refl w1)
    have qD : w1.heap.size ≤ D2.heap.size := by rw [hD.out]; exact Nat.le_refl _
    rw [← hD.out] at E hHeld ⊢
    simp only [List.pop_toArray, List.dropLast]
    refine wpAnyH_take (i := 0) (v := ?_) rfl (by kernel_rfl) (by kernel_rfl) (by kernel_rfl) (fun _ _ _ h => h) (Or.inl ⟨by rfl, fun w' hS' => ?_⟩) (by assumption) ?_
    rotate_left
    · (try dsimp only at hS'); go_simp; (try rw [if_pos (by omega)]); try with_reducible rfl
    try simp only [Act.put, List.getElem_toArray, List.getElem_cons_zero, List.getElem_cons_succ, List.setIfInBounds_toArray, List.set_cons_zero, List.set_cons_succ]
    refine wpAnyH_take (i := 1) (v := ?_) rfl (by kernel_rfl) (by kernel_rfl) (by kernel_rfl) (fun _ _ _ h => h) (Or.inl ⟨by rfl, fun w' hS' => ?_⟩) (by assumption) ?_
    rotate_left
    · (try dsimp only at hS'); go_simp; (try rw [if_pos (by omega)]); try with_reducible rfl
    try simp only [Act.put, List.getElem_toArray, List.getElem_cons_zero, List.getElem_cons_succ, List.setIfInBounds_toArray, List.set_cons_zero, List.set_cons_succ]
    refine wpAnyH_take (i := 3) (v := ?_) rfl (by kernel_rfl) (by kernel_rfl) (by kernel_rfl) (fun _ _ _ h => h) (Or.inl ⟨by rfl, fun w' hS' => ?_⟩) (by assumption) ?_
    rotate_left
    · (try dsimp only at hS'); go_simp; (try rw [if_pos (by omega)]); try with_reducible rfl
    try simp only [Act.put, List.getElem_toArray, List.getElem_cons_zero, List.getElem_cons_succ, List.setIfInBounds_toArray, List.set_cons_zero, List.set_cons_succ]
    refine wpAnyH_take (i := 4) (v := ?_) rfl (by kernel_rfl) (by kernel_rfl) (by kernel_rfl) (fun _ _ _ h => h) (Or.inl ⟨by rfl, fun w' hS' => ?_⟩) (by assumption) ?_
    rotate_left
    · (try dsimp only at hS'); go_simp; (try rw [if_pos (by omega)]); try with_reducible rfl
    try simp only [Act.put, List.getElem_toArray, List.getElem_cons_zero, List.getElem_cons_succ, List.setIfInBounds_toArray, List.set_cons_zero, List.set_cons_succ]
    refine wpAnyH_ready (rs := [2, 7]) (by kernel_rfl) (by simp) ?_
    refine AllReadyH.cons rfl (fun K' hK => ?_) (AllReadyH.cons rfl (fun K' hK => ?_) AllReadyH.nil)
    · refine if_yes (by rfl) ?_
      try simp only [Act.put, List.getElem_toArray, List.getElem_cons_zero, List.getElem_cons_succ, List.setIfInBounds_toArray, List.set_cons_zero, List.set_cons_succ]
      go_simp
      have E := ext_alloc E (.cells #[] 78)
      have Ha := World.ownsRow_lit (base := w1.heap.size) (e := 78) (size := 3) (D2) #[] 0 (by first | exact Nat.le_refl _ | (simp only [World.size_alloc]; omega) | omega) (by decide) rfl
      try simp only [World.size_alloc] at Ha
      refine hK.out _ _ ?_ (fun hHeld => ?_)
      · exact ⟨(A0.ext E).cell0 rfl, (A0.ext E).cell0 rfl⟩
      clear hK K'
      try simp only [Act.put, List.getElem_toArray, List.getElem_cons_zero, List.getElem_cons_succ, List.setIfInBounds_toArray, List.set_cons_zero, List.set_cons_succ]
      refine wpAnyH_ready (rs := [5, 7]) (by kernel_rfl) (by simp) ?_
      refine AllReadyH.cons rfl (fun K' hK => ?_) (AllReadyH.cons rfl (fun K' hK => ?_) AllReadyH.nil)
      · refine if_yes (by rfl) ?_
        try simp only [Act.put, List.getElem_toArray, List.getElem_cons_zero, List.getElem_cons_succ, List.setIfInBounds_toArray, List.set_cons_zero, List.set_cons_succ]
        refine wp_app _ (.tmp 14) (.tmp 16) 23 rfl w1.heap.size 0 78 i0 _ 3 24 Try.underlying23 Hi.out Hz0.out Hz1.out Hz2.out rfl (by decide) (.slice (some ⟨D2.heap.size, 0, none⟩) 0 0) (0) _ rfl Ha (.slice a p.bs.length c) p.bs.length (bcells p.bs) rfl (V1.out.ext E) (bcells_one _) ?_ ?_ ?_ ?_
        · unfold maxLen; omega
        · omega
        · first | omega | (simp only [World.size_alloc, World.size_drew]; omega)
        intro v1 w1 hown hgrow
        try simp only [Nat.zero_add, List.nil_append] at hown
        have E := ext_grown E hgrow (fun k hk => (own_lt Ha k hk).1)
        have q1 := hgrow.size
        try simp only [World.size_alloc] at q1
        obtain ⟨a1, c1, rfl, -⟩ := own_open hown
        have Ha := hown
        clear hown hgrow
        refine hK.out _ _ ?_ (fun hHeld => ?_)
        · exact ⟨(A0.ext E).cell0 rfl, (A0.ext E).cell0 rfl⟩
        clear hK K'
        try simp only [Act.put, List.getElem_toArray, List.getElem_cons_zero, List.getElem_cons_succ, List.setIfInBounds_toArray, List.set_cons_zero, List.set_cons_succ]
        refine wpAnyH_take (i := 6) (v := ?_) rfl (by kernel_rfl) (by kernel_rfl) (by kernel_rfl) (fun _ _ _ h => h) (Or.inl ⟨by rfl, fun w' hS' => ?_⟩) (by assumption) ?_
        rotate_left
        · (try dsimp only at hS'); go_simp; (try rw [if_pos (by omega)]); try with_reducible rfl
        try simp only [Act.put, List.getElem_toArray, List.getElem_cons_zero, List.getElem_cons_succ, List.setIfInBounds_toArray, List.set_cons_zero, List.set_cons_succ]
        refine wpAnyH_ready (rs := [7]) (by kernel_rfl) (by simp) ?_
        refine AllReadyH.cons rfl (fun K' hK => ?_) AllReadyH.nil
        refine if_yes (by rfl) ?_
        try simp only [Act.put, List.getElem_toArray, List.getElem_cons_zero, List.getElem_cons_succ, List.setIfInBounds_toArray, List.set_cons_zero, List.set_cons_succ]
        go_simp
        have Ha := World.ownsRow.alloc Ha (.cells #[.int .i64 0, .slice none 0 0] 25)
        have E := ext_alloc E (.cells #[.int .i64 0, .slice none 0 0] 25)
        have Ho := Box.new (w1) 25 #[.int .i64 0, .slice none 0 0]
        try simp only [World.size_alloc] at Ho
        obtain ⟨w2, hw2⟩ : ∃ w2, Hid (w2 = (w1).alloc (.cells #[.int .i64 0, .slice none 0 0] 25)) := ⟨_, rfl⟩
        have q2 : (w1).heap.size < w2.heap.size := by rw [hw2.out]; simp only [World.size_alloc]; omega
        try simp only [World.size_alloc] at q2
        rw [← hw2.out] at Ho E ⊢
        rw [← hw2.out] at Ha
        refine hK.out _ _ ?_ (fun hHeld => ?_)
        · exact ⟨(A0.ext E).cell0 rfl, (A0.ext E).cell0 rfl⟩
        clear hK K'
        try simp only [Act.put, List.getElem_toArray, List.getElem_cons_zero, List.getElem_cons_succ, List.setIfInBounds_toArray, List.set_cons_zero, List.set_cons_succ]
        obtain ⟨rco, rzo⟩ := (Ho).rules; have rlo := (Ho).lt
        refine wpAnyH_done (by kernel_rfl) ?_ _
        refine tail_step rfl (fun K' hK => ?_)
        refine if_yes (by rfl) ?_
        try simp only [Act.put, List.getElem_toArray, List.getElem_cons_zero, List.getElem_cons_succ, List.setIfInBounds_toArray, List.set_cons_zero, List.set_cons_succ]
        go_simp
        refine hK _ _ ?_
        clear hK K'
        try simp only [Act.put, List.getElem_toArray, List.getElem_cons_zero, List.getElem_cons_succ, List.setIfInBounds_toArray, List.set_cons_zero, List.set_cons_succ]
        go_wp2_with fail
        go_meet
        exact out_done (p := ⟨(n : Int), p.bs⟩) Ho (by simp only [bcells_append]; exact Ha) (by omega) E
      · refine if_yes (by rfl) ?_
        try simp only [Act.put, List.getElem_toArray, List.getElem_cons_zero, List.getElem_cons_succ, List.setIfInBounds_toArray, List.set_cons_zero, List.set_cons_succ]
        go_simp
        have Ha := World.ownsRow.alloc Ha (.cells #[.int .i64 0, .slice none 0 0] 25)
        have E := ext_alloc E (.cells #[.int .i64 0, .slice none 0 0] 25)
        have Ho := Box.new ((D2).alloc (.cells #[] 78)) 25 #[.int .i64 0, .slice none 0 0]
        try simp only [World.size_alloc] at Ho
        obtain ⟨w3, hw3⟩ : ∃ w3, Hid (w3 = ((D2).alloc (.cells #[] 78)).alloc (.cells #[.int .i64 0, .slice none 0 0] 25)) := ⟨_, rfl⟩
        have q3 : ((D2).alloc (.cells #[] 78)).heap.size < w3.heap.size := by rw [hw3.out]; simp only [World.size_alloc]; omega
        try simp only [World.size_alloc] at q3
        rw [← hw3.out] at Ho E ⊢
        rw [← hw3.out] at Ha
        refine hK.out _ _ ?_ (fun hHeld => ?_)
        · exact ⟨(A0.ext E).cell0 rfl, (A0.ext E).cell0 rfl⟩
        clear hK K'
        try simp only [Act.put, List.getElem_toArray, List.getElem_cons_zero, List.getElem_cons_succ, List.setIfInBounds_toArray, List.set_cons_zero, List.set_cons_succ]
        refine wpAnyH_ready (rs := [5]) (by kernel_rfl) (by simp) ?_
        refine AllReadyH.cons rfl (fun K' hK => ?_) AllReadyH.nil
        refine if_yes (by rfl) ?_
        try simp only [Act.put, List.getElem_toArray, List.getElem_cons_zero, List.getElem_cons_succ, List.setIfInBounds_toArray, List.set_cons_zero, List.set_cons_succ]
        refine wp_app _ (.tmp 14) (.tmp 16) 23 rfl w1.heap.size 0 78 i0 _ 3 24 Try.underlying23 Hi.out Hz0.out Hz1.out Hz2.out rfl (by decide) (.slice (some ⟨D2.heap.size, 0, none⟩) 0 0) (0) _ rfl Ha (.slice a p.bs.length c) p.bs.length (bcells p.bs) rfl (V1.out.ext E) (bcells_one _) ?_ ?_ ?_ ?_
        · unfold maxLen; omega
        · omega
        · first | omega | (simp only [World.size_alloc, World.size_drew]; omega)
        intro v4 w4 hown hgrow
        try simp only [Nat.zero_add, List.nil_append] at hown
        have Ho := Ho.grown hgrow (own_not_box Ha Ho)
        have E := ext_grown E hgrow (fun k hk => (own_lt Ha k hk).1)
        have q4 := hgrow.size
        try simp only [World.size_alloc] at q4
        obtain ⟨a4, c4, rfl, -⟩ := own_open hown
        have Ha := hown
        clear hown hgrow
        refine hK.out _ _ ?_ (fun hHeld => ?_)
        · exact ⟨(A0.ext E).cell0 rfl, (A0.ext E).cell0 rfl⟩
        clear hK K'
        try simp only [Act.put, List.getElem_toArray, List.getElem_cons_zero, List.getElem_cons_succ, List.setIfInBounds_toArray, List.set_cons_zero, List.set_cons_succ]
        refine wpAnyH_take (i := 6) (v := ?_) rfl (by kernel_rfl) (by kernel_rfl) (by kernel_rfl) (fun _ _ _ h => h) (Or.inl ⟨by rfl, fun w' hS' => ?_⟩) (by assumption) ?_
        rotate_left
        · (try dsimp only at hS'); go_simp; (try rw [if_pos (by omega)]); try with_reducible rfl
        try simp only [Act.put, List.getElem_toArray, List.getElem_cons_zero, List.getElem_cons_succ, List.setIfInBounds_toArray, List.set_cons_zero, List.set_cons_succ]
        obtain ⟨rco, rzo⟩ := (Ho).rules; have rlo := (Ho).lt
        refine wpAnyH_done (by kernel_rfl) ?_ _
        refine tail_step rfl (fun K' hK => ?_)
        refine if_yes (by rfl) ?_
        try simp only [Act.put, List.getElem_toArray, List.getElem_cons_zero, List.getElem_cons_succ, List.setIfInBounds_toArray, List.set_cons_zero, List.set_cons_succ]
        go_simp
        refine hK _ _ ?_
        clear hK K'
        try simp only [Act.put, List.getElem_toArray, List.getElem_cons_zero, List.getElem_cons_succ, List.setIfInBounds_toArray, List.set_cons_zero, List.set_cons_succ]
        go_wp2_with fail
        go_meet
        exact out_done (p := ⟨(n : Int), p.bs⟩) Ho (by simp only [bcells_append]; exact Ha) (by omega) E
    · refine if_yes (by rfl) ?_
      try simp only [Act.put, List.getElem_toArray, List.getElem_cons_zero, List.getElem_cons_succ, List.setIfInBounds_toArray, List.set_cons_zero, List.set_cons_succ]
      go_simp
      have E := ext_alloc E (.cells #[.int .i64 0, .slice none 0 0] 25)
      have Ho := Box.new (D2) 25 #[.int .i64 0, .slice none 0 0]
      try simp only [World.size_alloc] at Ho
      obtain ⟨w5, hw5⟩ : ∃ w5, Hid (w5 = (D2).alloc (.cells #[.int .i64 0, .slice none 0 0] 25)) := ⟨_, rfl⟩
      have q5 : (D2).heap.size < w5.heap.size := by rw [hw5.out]; simp only [World.size_alloc]; omega
      try simp only [World.size_alloc] at q5
      rw [← hw5.out] at Ho E ⊢
      refine hK.out _ _ ?_ (fun hHeld => ?_)
      · exact ⟨(A0.ext E).cell0 rfl, (A0.ext E).cell0 rfl⟩
      clear hK K'
      try simp only [Act.put, List.getElem_toArray, List.getElem_cons_zero, List.getElem_cons_succ, List.setIfInBounds_toArray, List.set_cons_zero, List.set_cons_succ]
      refine wpAnyH_ready (rs := [2]) (by kernel_rfl) (by simp) ?_
      refine AllReadyH.cons rfl (fun K' hK => ?_) AllReadyH.nil
      refine if_yes (by rfl) ?_
      try simp only [Act.put, List.getElem_toArray, List.getElem_cons_zero, List.getElem_cons_succ, List.setIfInBounds_toArray, List.set_cons_zero, List.set_cons_succ]
      go_simp
      have Ho := Ho.alloc (.cells #[] 78)
      have E := ext_alloc E (.cells #[] 78)
      have Ha := World.ownsRow_lit (base := w1.heap.size) (e := 78) (size := 3) (w5) #[] 0 (by first | exact Nat.le_refl _ | (simp only [World.size_alloc]; omega) | omega) (by decide) rfl
      try simp only [World.size_alloc] at Ha
      refine hK.out _ _ ?_ (fun hHeld => ?_)
      · exact ⟨(A0.ext E).cell0 rfl, (A0.ext E).cell0 rfl⟩
      clear hK K'
      try simp only [Act.put, List.getElem_toArray, List.getElem_cons_zero, List.getElem_cons_succ, List.setIfInBounds_toArray, List.set_cons_zero, List.set_cons_succ]
      refine wpAnyH_ready (rs := [5]) (by kernel_rfl) (by simp) ?_
      refine AllReadyH.cons rfl (fun K' hK => ?_) AllReadyH.nil
      refine if_yes (by rfl) ?_
      try simp only [Act.put, List.getElem_toArray, List.getElem_cons_zero, List.getElem_cons_succ, List.setIfInBounds_toArray, List.set_cons_zero, List.set_cons_succ]
      refine wp_app _ (.tmp 14) (.tmp 16) 23 rfl w1.heap.size 0 78 i0 _ 3 24 Try.underlying23 Hi.out Hz0.out Hz1.out Hz2.out rfl (by decide) (.slice (some ⟨w5.heap.size, 0, none⟩) 0 0) (0) _ rfl Ha (.slice a p.bs.length c) p.bs.length (bcells p.bs) rfl (V1.out.ext E) (bcells_one _) ?_ ?_ ?_ ?_
      · unfold maxLen; omega
      · omega
      · first | omega | (simp only [World.size_alloc, World.size_drew]; omega)
      intro v6 w6 hown hgrow
      try simp only [Nat.zero_add, List.nil_append] at hown
      have Ho := Ho.grown hgrow (own_not_box Ha Ho)
      have E := ext_grown E hgrow (fun k hk => (own_lt Ha k hk).1)
      have q6 := hgrow.size
      try simp only [World.size_alloc] at q6
      obtain ⟨a6, c6, rfl, -⟩ := own_open hown
      have Ha := hown
      clear hown hgrow
      refine hK.out _ _ ?_ (fun hHeld => ?_)
      · exact ⟨(A0.ext E).cell0 rfl, (A0.ext E).cell0 rfl⟩
      clear hK K'
      try simp only [Act.put, List.getElem_toArray, List.getElem_cons_zero, List.getElem_cons_succ, List.setIfInBounds_toArray, List.set_cons_zero, List.set_cons_succ]
      refine wpAnyH_take (i := 6) (v := ?_) rfl (by kernel_rfl) (by kernel_rfl) (by kernel_rfl) (fun _ _ _ h => h) (Or.inl ⟨by rfl, fun w' hS' => ?_⟩) (by assumption) ?_
      rotate_left
      · (try dsimp only at hS'); go_simp; (try rw [if_pos (by omega)]); try with_reducible rfl
      try simp only [Act.put, List.getElem_toArray, List.getElem_cons_zero, List.getElem_cons_succ, List.setIfInBounds_toArray, List.set_cons_zero, List.set_cons_succ]
      obtain ⟨rco, rzo⟩ := (Ho).rules; have rlo := (Ho).lt
      refine wpAnyH_done (by kernel_rfl) ?_ _
      refine tail_step rfl (fun K' hK => ?_)
      refine if_yes (by rfl) ?_
      try simp only [Act.put, List.getElem_toArray, List.getElem_cons_zero, List.getElem_cons_succ, List.setIfInBounds_toArray, List.set_cons_zero, List.set_cons_succ]
      go_simp
      refine hK _ _ ?_
      clear hK K'
      try simp only [Act.put, List.getElem_toArray, List.getElem_cons_zero, List.getElem_cons_succ, List.setIfInBounds_toArray, List.set_cons_zero, List.set_cons_succ]
      go_wp2_with fail
      go_meet
      exact out_done (p := ⟨(n : Int), p.bs⟩) Ho (by simp only [bcells_append]; exact Ha) (by omega) E
  rename World => w2
  obtain ⟨gp, vb, rfl, P2, hvb, hgp, hb2⟩ := hcut
  have Vb : Hid (Bds w2 w1.heap.size vb (p.bs ++ stB now d 0)) := by rw [show p.bs ++ stB now d 0 = p.bs from List.append_nil _]; exact Lib.hid hvb
  clear hvb
  go_wp2_with fail
  go_loopg [6] n (fun m kk wr => ∃ (k : Nat) (vx : Value), k ≤ n ∧ m = n - k ∧ kk = .int .i64 k ∧ Hid (Bds wr w1.heap.size vx (p.bs ++ stB now d k)) ∧ Below w1.heap.size w1 wr ∧ Box wr gp 25 #[.int .i64 n, vx])
  case atStart => exact ⟨0, vb, by omega, by omega, rfl, Vb, hb2, P2⟩
  case round =>
    clear Vb hb2 P2
    obtain ⟨k, vx, hk, hgk, rfl, Vb, hb, P2⟩ := hrel
    have Hk := Lib.hid hgk
    clear hgk
    have B2 := B0.ext hb
    have hbs := hb.size
    obtain ⟨av, cv, hav, -⟩ := Vb.out.open
    obtain ⟨L, hL⟩ : ∃ L, Hid (L = (p.bs ++ stB now d k).length) := ⟨_, rfl⟩
    have hL40 : L ≤ 16 + 2 * k := by rw [hL.out, List.length_append]; have := stB_length now d k; omega
    rw [← hL.out] at hav
    subst hav
    obtain ⟨rc1, rz1⟩ := (B2).rules; have rl1 := (B2).lt
    obtain ⟨rc2, rz2⟩ := (P2).rules; have rl2 := (P2).lt
    by_cases hlk : k < n
    · obtain ⟨gx, hag, -, hg, -, cx⟩ := (D1.out.ext hb).at_ (j := k) (by rw [Hl.out]; exact hlk)
      subst hag
      obtain ⟨x, hx⟩ : ∃ x, Hid (x = dA d k) := ⟨_, rfl⟩
      rw [show d.getD k 0 = x from hx.out.symm] at cx
      have hxr := Hdv.out k hlk
      rw [← hx.out] at hxr
      by_cases hx1 : x = -1
      · have hxb : (x != -1) = false := by simp [hx1]
        have hnx : Hid (p.bs ++ stB now d (k+1) = (p.bs ++ stB now d k) ++ [⟨k, 0, -now⟩]) := by rw [stB_succ, if_pos (hx.out.symm.trans hx1), List.append_assoc]; exact Lib.hid rfl
        have hng : IntKind.i64.wrap (-now) = -now := IntWalk.i64_in _ (by omega)
        have Hx1 := Lib.hid hx1
        clear hx1
        have hL1 : Hid (((p.bs ++ stB now d k) ++ [(⟨k, 0, -now⟩ : Bd)]).length = L + 1) := by rw [List.length_append, ← hL.out]; exact Lib.hid rfl
        go_wp2_with (at_builtin; refine wpl_appB _ rfl (.tmp 48) (.tmp 53) rfl w1.heap.size 0 (.slice av L cv) (p.bs ++ stB now d k) rfl (Vb.out.alloc _) (.slice (some ⟨wr.heap.size, 0, none⟩) 1 1) [⟨k, 0, -now⟩] rfl ((Bds.lit wr ⟨k, 0, -now⟩).base (Nat.zero_le _)) (by rw [← hL.out]; simp; omega) (by simp; omega) ?_; intro v9 w9 hv9 hg9; obtain ⟨a9, c9, hav9, -⟩ := hv9.open; rw [hL1.out] at hav9; subst hav9; have P3 := (P2.alloc (.cells #[.int .i64 k, .int .i64 0, .int .i64 (-now)] 78)).grown hg9 (own_not_box (Vb.out.alloc (.cells #[.int .i64 k, .int .i64 0, .int .i64 (-now)] 78)) (P2.alloc (.cells #[.int .i64 k, .int .i64 0, .int .i64 (-now)] 78))); clear rc2 rz2 rl2; obtain ⟨rc2, rz2⟩ := P3.rules; have rl2 := P3.lt)
        rw [← hnx.out] at hv9
        have Xo := own_not_box hv9 P3
        go_roundg (n - (k+1))
        case rel => exact ⟨k+1, _, by omega, rfl, by go_num, Lib.hid (hv9.far (grown_set (i := 1) (World.grownBy.refl _ (some gp)) _) (fun q hq e => Xo (e.trans hq.symm))), ext_set (ext_grown (ext_alloc hb _) hg9 (fun q hq => (Vb.out.lt q hq).1)) (by dsimp only; omega) _, P3.set 1 _⟩
        case measure => have := Hk.out; omega
      · have hxb : (x != -1) = true := by simp [hx1]
        have hnx : Hid (p.bs ++ stB now d (k+1) = ((p.bs ++ stB now d k) ++ [⟨0, k, x⟩]) ++ [⟨k, 0, -x⟩]) := by rw [stB_succ, if_neg (fun h => hx1 (hx.out.trans h)), List.append_assoc, List.append_assoc, hx.out]; exact Lib.hid rfl
        have hng : IntKind.i64.wrap (-x) = -x := IntWalk.i64_in _ (by omega)
        have Hx1 := Lib.hid hx1
        clear hx1
        have hL1 : Hid (((p.bs ++ stB now d k) ++ [(⟨0, k, x⟩ : Bd)]).length = L + 1) := by rw [List.length_append, ← hL.out]; exact Lib.hid rfl
        have hL2 : Hid ((((p.bs ++ stB now d k) ++ [(⟨0, k, x⟩ : Bd)]) ++ [(⟨k, 0, -x⟩ : Bd)]).length = L + 2) := by rw [List.length_append, hL1.out]; exact Lib.hid rfl
        go_upto_region 11 with (at_builtin; refine wpl_appB _ rfl (.tmp 40) (.tmp 44) rfl w1.heap.size 0 (.slice av L cv) (p.bs ++ stB now d k) rfl (Vb.out.alloc _) (.slice (some ⟨wr.heap.size, 0, none⟩) 1 1) [⟨0, k, x⟩] rfl ((Bds.lit wr ⟨0, k, x⟩).base (Nat.zero_le _)) (by rw [← hL.out]; simp; omega) (by simp; omega) ?_; intro v9 w9 hv9 hg9; obtain ⟨a9, c9, hav9, -⟩ := hv9.open; rw [hL1.out] at hav9; subst hav9; have P3 := (P2.alloc (.cells #[.int .i64 0, .int .i64 k, .int .i64 x] 78)).grown hg9 (own_not_box (Vb.out.alloc (.cells #[.int .i64 0, .int .i64 k, .int .i64 x] 78)) (P2.alloc (.cells #[.int .i64 0, .int .i64 k, .int .i64 x] 78))); clear rc2 rz2 rl2; obtain ⟨rc2, rz2⟩ := P3.rules; have rl2 := P3.lt)
        have Xo := own_not_box hv9 P3
        have hb9 := ext_grown (ext_alloc hb _) hg9 (fun q hq => (Vb.out.lt q hq).1)
        obtain ⟨wz, hwz⟩ : ∃ wz, Hid (wz = w9.setCell ⟨gp, 1, none⟩ (.slice a9 (L + 1) c9)) := ⟨_, rfl⟩
        have Vz : Hid (Bds wz w1.heap.size (.slice a9 (L + 1) c9) ((p.bs ++ stB now d k) ++ [⟨0, k, x⟩])) := by rw [hwz.out]; exact Lib.hid (hv9.far (grown_set (i := 1) (World.grownBy.refl _ (some gp)) _) (fun q hq e => Xo (e.trans hq.symm)))
        have hbz : Below w1.heap.size w1 wz := by rw [hwz.out]; exact ext_set hb9 (by dsimp only; omega) _
        have Pz : Box wz gp 25 #[.int .i64 n, .slice a9 (L + 1) c9] := by rw [hwz.out]; exact P3.set 1 _
        have hbzs := hbz.size
        rw [← hwz.out]
        clear rc2 rz2 rl2 hv9 hg9 P3 P2 Vb hb hb9 Xo rc1 rz1 rl1 cx
        obtain ⟨rc2, rz2⟩ := (Pz).rules; have rl2 := (Pz).lt
        go_wp2_with (at_builtin; refine wpl_appB _ rfl (.tmp 48) (.tmp 53) rfl w1.heap.size 0 (.slice a9 (L + 1) c9) ((p.bs ++ stB now d k) ++ [⟨0, k, x⟩]) rfl (Vz.out.alloc _) (.slice (some ⟨wz.heap.size, 0, none⟩) 1 1) [⟨k, 0, -x⟩] rfl ((Bds.lit wz ⟨k, 0, -x⟩).base (Nat.zero_le _)) (by rw [hL1.out]; simp; omega) (by simp; omega) ?_; intro v9 w9 hv9 hg9; obtain ⟨a9, c9, hav9, -⟩ := hv9.open; rw [hL2.out] at hav9; subst hav9; have P3 := (Pz.alloc (.cells #[.int .i64 k, .int .i64 0, .int .i64 (-x)] 78)).grown hg9 (own_not_box (Vz.out.alloc (.cells #[.int .i64 k, .int .i64 0, .int .i64 (-x)] 78)) (Pz.alloc (.cells #[.int .i64 k, .int .i64 0, .int .i64 (-x)] 78))); clear rc2 rz2 rl2; obtain ⟨rc2, rz2⟩ := P3.rules; have rl2 := P3.lt)
        rw [← hnx.out] at hv9
        have Xo := own_not_box hv9 P3
        go_roundg (n - (k+1))
        case rel => exact ⟨k+1, _, by omega, rfl, by go_num, Lib.hid (hv9.far (grown_set (i := 1) (World.grownBy.refl _ (some gp)) _) (fun q hq e => Xo (e.trans hq.symm))), ext_set (ext_grown (ext_alloc hbz _) hg9 (fun q hq => (Vz.out.lt q hq).1)) (by dsimp only; omega) _, P3.set 1 _⟩
        case measure => have := Hk.out; omega
    · have hkn : n = k := by omega
      subst hkn
      have hin : Hid (BdsIn n (-2000) 2000 (p.bs ++ stB now d n)) := by have := stB_in Hst.out n (by rw [← hnn.out]; exact Nat.le_refl _); rw [← hnn.out] at this; exact Lib.hid this
      go_wp2_with fail
      refine (spec_l2Closed n _ (p.bs ++ stB now d n) _ (Vb.out.base (Nat.zero_le _)) p3 hin.out (by rw [← hL.out]; omega)).mono ?_
      rintro e w3 ⟨vt, ht, rfl, hG, hb3⟩
      have G := Lib.hid hG
      have E3 := ext_trans E1 (ext_trans hb hb3)
      clear hG hb3 rc1 rz1 rl1 rc2 rz2 rl2
      go_wp2_with fail
      refine (spec_l2Fits n vt ht _ _ (G.out.base (Nat.zero_le _))).mono ?_
      rintro e w4 ⟨rfl, hb4⟩
      go_wp2_with fail
      go_ret
      exact ⟨by rw [goes_yesS Hst.out hnn.out]; rfl, ext_trans E3 hb4⟩
end Go.Proofs.Ytffcfambgcaikaa
