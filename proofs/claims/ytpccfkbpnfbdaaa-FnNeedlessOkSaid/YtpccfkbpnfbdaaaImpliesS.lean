/- The walks of spec's ImpliesOk and AlikeOk. No condition but that the bounds can be read. -/
import Derived.Test.YtpccfkbpnfbdaaaImplies
namespace Go.Proofs.Ytpccfkbpnfbdaaa
open Go.RowKit
set_option linter.unusedVariables false
set_option linter.unusedSimpArgs false
theorem ext_drewN4 (w : World) (n : Nat) : Below w.heap.size w (w.drewN n) := ⟨rfl, rfl, rfl, Nat.le_refl _, fun _ _ => rfl⟩
set_option maxRecDepth 100000 in
set_option maxHeartbeats 8000000 in
theorem spec_ImpliesOk (p q : Pl) (vp vq : Value) (w : World) (hp : Bds w 0 vp p.bs) (hq : Bds w 0 vq q.bs) :
    Calls Try.prog 64 #[.agg #[.int .i64 p.pts, vp], .agg #[.int .i64 q.pts, vq]] w fun e w' => e = .returned (.bool (p.implies q)) ∧ Below w.heap.size w w' := by
  have HP := Lib.hid hp; have HQ := Lib.hid hq
  obtain ⟨a, c, rfl, hn, hc, -⟩ := hp.open
  obtain ⟨a', c', rfl, hn', hc', -⟩ := hq.open
  clear hp hq
  go_enter Try.func64, Try.ntmps64
  go_wp2_with fail
  obtain ⟨W, hW, A0, B0, hs, E⟩ := two_boxes w #[.int .i64 p.pts, .slice a p.bs.length c] #[.int .i64 q.pts, .slice a' q.bs.length c'] 29 29
  rw [← hW.out]
  refine (spec_PlanOk p _ _ (HP.out.ext E)).mono ?_
  rintro e w1 ⟨rfl, hb1⟩
  have A0 := A0.ext hb1; have B0 := B0.ext hb1
  have E := ext_trans E hb1
  obtain ⟨rc0, rz0⟩ := (A0).rules; have rl0 := (A0).lt
  obtain ⟨rc1, rz1⟩ := (B0).rules; have rl1 := (B0).lt
  cases hok : p.ok
  · have Hf : Hid (p.implies q = false) := by simp [Pl.implies, hok]; exact Lib.hid trivial
    clear hok
    go_wp2_with fail
    go_ret
    exact ⟨by rw [Hf.out]; rfl, E⟩
  have Hok := Lib.hid hok
  clear hok
  go_wp2_with fail
  refine (spec_PlanOk q _ _ (HQ.out.ext E)).mono ?_
  rintro e w2 ⟨rfl, hb2⟩
  have A0 := A0.ext hb2; have B0 := B0.ext hb2
  have E := ext_trans E hb2
  clear rc0 rz0 rl0 rc1 rz1 rl1 hb1 hb2
  obtain ⟨rc0, rz0⟩ := (A0).rules; have rl0 := (A0).lt
  obtain ⟨rc1, rz1⟩ := (B0).rules; have rl1 := (B0).lt
  cases hoq : q.ok
  · have Hf : Hid (p.implies q = false) := by simp [Pl.implies, hoq]; exact Lib.hid trivial
    clear hoq
    go_wp2_with fail
    go_ret
    exact ⟨by rw [Hf.out]; rfl, E⟩
  have Hoq := Lib.hid hoq
  clear hoq
  by_cases hpt : p.pts = q.pts
  · have hne : (p.pts != q.pts) = false := by simp [hpt]
    have Hpt := Lib.hid hpt
    have hqn : Hid (q.n = p.n) := by unfold Pl.n; rw [hpt]; exact Lib.hid rfl
    clear hpt
    obtain ⟨q1, q2, q3, q4, q5⟩ := plok_in Hoq.out
    obtain ⟨p1, p2, p3, p4, p5⟩ := plok_in Hok.out
    have Q1 := Lib.hid q1; have Q5 := Lib.hid q5; have P5 := Lib.hid p5; have P1 := Lib.hid p1
    obtain ⟨n, hnn⟩ : ∃ n, Hid (n = p.n) := ⟨_, rfl⟩
    have Q1 : Hid (q.pts = (n : Int)) := by rw [hnn.out, ← hqn.out]; exact Q1
    have P1 : Hid (p.pts = (n : Int)) := by rw [hnn.out]; exact P1
    have Q5 : Hid (BdsIn n (-2000) 2000 q.bs) := by rw [hnn.out, ← hqn.out]; exact Lib.hid (Q5.out.wide (by decide) (by decide))
    have P5 : Hid (BdsIn n (-2000) 2000 p.bs) := by rw [hnn.out]; exact Lib.hid (P5.out.wide (by decide) (by decide))
    have hn6 : n ≤ 6 := by rw [hnn.out]; exact p3
    clear q1 q2 q3 q5 p1 p2 p3 p5
    go_wp2_with fail
    refine (spec_FitsOk p _ _ (HP.out.ext E)).mono ?_
    rintro e w3 ⟨rfl, hb3⟩
    have A0 := A0.ext hb3; have B0 := B0.ext hb3
    have E := ext_trans E hb3
    clear rc0 rz0 rl0 rc1 rz1 rl1 hb3
    obtain ⟨rc0, rz0⟩ := (A0).rules; have rl0 := (A0).lt
    obtain ⟨rc1, rz1⟩ := (B0).rules; have rl1 := (B0).lt
    cases hf : p.fits
    · have Hf : Hid (p.implies q = true) := by simp [Pl.implies, hf, Hok.out, Hoq.out, Hpt.out]; exact Lib.hid trivial
      clear hf
      go_wp2_with fail
      go_ret
      exact ⟨by rw [Hf.out]; rfl, E⟩
    obtain ⟨D, hD⟩ : ∃ D, Hid (D = upT (tab0 p.bs) n) := ⟨_, rfl⟩
    obtain ⟨T, hT⟩ : ∃ T, Hid (T = tab0 q.bs) := ⟨_, rfl⟩
    have Hf : Hid (p.implies q = leB D T n) := by
      simp only [Pl.implies, hf, Hok.out, Hoq.out, Hpt.out, decide_true, Bool.and_true, Bool.true_and, Bool.not_true, Bool.false_or]
      rw [hD.out, hT.out, hnn.out]; exact Lib.hid rfl
    clear hf
    rw [P1.out] at rc0
    rw [Q1.out] at rc1
    go_wp2_with fail
    refine (spec_l2Closed n _ p.bs _ (HP.out.ext E) hn6 P5.out (by omega)).mono ?_
    rintro e w4 ⟨vt, ht, rfl, hG, hb4⟩
    obtain ⟨at_, ct, rfl, hct, hct2⟩ := hG.open
    have A0 := A0.ext hb4; have B0 := B0.ext hb4
    have E := ext_trans E hb4
    have G := Lib.hid hG
    rw [← hD.out] at G
    clear rc0 rz0 rl0 rc1 rz1 rl1 hb4 hG
    obtain ⟨rc0, rz0⟩ := (A0).rules; have rl0 := (A0).lt
    obtain ⟨rc1, rz1⟩ := (B0).rules; have rl1 := (B0).lt
    rw [P1.out] at rc0
    rw [Q1.out] at rc1
    go_wp2_with fail
    refine (spec_l2Table n _ q.bs _ (HQ.out.ext E) hn6 Q5.out (by omega)).mono ?_
    rintro e w5 ⟨vs, hs5, rfl, hS, hb5⟩
    obtain ⟨as_, cs, rfl, hcs, hcs2⟩ := hS.open
    have A0 := A0.ext hb5
    have E := ext_trans E hb5
    have G := Lib.hid (G.out.ext hb5)
    have S := Lib.hid hS
    rw [← hT.out] at S
    rw [P1.out] at A0
    clear rc0 rz0 rl0 rc1 rz1 rl1 hb5 hS B0
    go_wp2_with fail
    go_loopg [7] n (fun m ii wr => ∃ i : Nat, i ≤ n ∧ m = n - i ∧ ii = .int .i64 i ∧ Below w5.heap.size w5 wr ∧ Hid (∀ a, a < i → ∀ b, b < n → D a b ≤ T a b))
    case atStart => exact ⟨0, by omega, by omega, rfl, ext_refl _, fun a ha => by omega⟩
    case round =>
      obtain ⟨i, hi, hgk, rfl, hb, Hall⟩ := hrel
      have Hi := Lib.hid hgk
      clear hgk
      have A1 := A0.ext hb
      obtain ⟨rc1, rz1⟩ := (A1).rules; have rl1 := (A1).lt
      by_cases hli : i < n
      · go_wp2_with fail
        clear rc1 rz1 rl1
        rename World => wr
        go_loopg [8] n (fun m jj wx => ∃ j : Nat, j ≤ n ∧ m = n - j ∧ jj = .int .i64 j ∧ Below w5.heap.size w5 wx ∧ Hid (∀ b, b < j → D i b ≤ T i b))
        case atStart => exact ⟨0, by omega, by omega, rfl, hb, fun a ha => by omega⟩
        case round =>
          rename World => wx
          clear hb A1
          obtain ⟨j, hj, hgk, rfl, hb, Hrow⟩ := hrel
          have Hj := Lib.hid hgk
          clear hgk
          have A1 := A0.ext hb
          obtain ⟨rc1, rz1⟩ := (A1).rules; have rl1 := (A1).lt
          by_cases hlj : j < n
          · obtain ⟨gd, ad, cd, hag, _, hgd, _, hOd, hcd, hcd2, hrd⟩ := (G.out.ext hb).head hli
            subst hag
            obtain ⟨gs, as2, cs2, hag, _, hgs, _, hOs, hcs3, hcs4, hrs⟩ := (S.out.ext hb).head hli
            subst hag
            have hl1 : (rowOf n (D i)).length = n := rowOf_length _ _
            have hl2 : (rowOf n (T i)).length = n := rowOf_length _ _
            obtain ⟨g1, ha1, _, hg1, _, k1⟩ := hrd.at_ (j := j) (by omega)
            subst ha1
            obtain ⟨g2, ha2, _, hg2, _, k2⟩ := hrs.at_ (j := j) (by omega)
            subst ha2
            rw [rowOf_getD _ _ _ hlj] at k1 k2
            obtain ⟨x, Hx⟩ : ∃ x, Hid (x = D i j) := ⟨_, rfl⟩
            obtain ⟨y, Hy⟩ : ∃ x, Hid (x = T i j) := ⟨_, rfl⟩
            rw [← Hx.out] at k1
            rw [← Hy.out] at k2
            clear hl1 hl2 hrd hrs
            by_cases hxy : y < x
            · have hd1 : decide (y < x) = true := decide_eq_true hxy
              go_wp2_with fail
              go_quiet (fail)
              go_wp2_with fail
              go_ret
              refine ⟨?_, ext_trans E (ext_trans hb (ext_drewN4 _ _))⟩
              rw [Hf.out, leB_not hli hlj (by rw [← Hx.out, ← Hy.out]; exact hxy)]; rfl
            · have hd1 : decide (y < x) = false := decide_eq_false hxy
              go_wp2_with fail
              go_quiet (fail)
              go_wp2_with fail
              go_roundg (n - (j+1))
              case rel => exact ⟨j+1, by omega, rfl, by go_num, ext_trans hb (ext_drewN4 _ _), Lib.hid (cols_next Hrow.out (by rw [← Hx.out, ← Hy.out]; omega))⟩
              case measure => have := Hj.out; omega
          · have hjn : n = j := by omega
            subst hjn
            go_wp2_with fail
            go_roundg (n - (i+1))
            case rel => exact ⟨i+1, by omega, rfl, by go_num, hb, Lib.hid (rows_next Hall.out Hrow.out)⟩
            case measure => have := Hi.out; omega
      · have hin : n = i := by omega
        subst hin
        go_wp2_with fail
        go_ret
        refine ⟨?_, ext_trans E hb⟩
        rw [Hf.out, leB_iff.2 Hall.out]; rfl
  · have hne : (p.pts != q.pts) = true := by simp [hpt]
    have Hf : Hid (p.implies q = false) := by simp [Pl.implies, hpt]; exact Lib.hid trivial
    clear hpt
    go_wp2_with fail
    go_ret
    exact ⟨by rw [Hf.out]; rfl, E⟩
set_option maxHeartbeats 2000000 in
theorem spec_AlikeOk (p q : Pl) (vp vq : Value) (w : World) (hp : Bds w 0 vp p.bs) (hq : Bds w 0 vq q.bs) :
    Calls Try.prog 38 #[.agg #[.int .i64 p.pts, vp], .agg #[.int .i64 q.pts, vq]] w fun e w' => e = .returned (.bool (p.alike q)) ∧ Below w.heap.size w w' := by
  have HP := Lib.hid hp; have HQ := Lib.hid hq
  obtain ⟨a, c, rfl, hn, hc, -⟩ := hp.open
  obtain ⟨a', c', rfl, hn', hc', -⟩ := hq.open
  clear hp hq
  go_enter Try.func38, Try.ntmps38
  go_wp2_with fail
  obtain ⟨W, hW, A0, B0, hs, E⟩ := two_boxes w #[.int .i64 p.pts, .slice a p.bs.length c] #[.int .i64 q.pts, .slice a' q.bs.length c'] 29 29
  rw [← hW.out]
  refine (spec_ImpliesOk p q _ _ _ (HP.out.ext E) (HQ.out.ext E)).mono ?_
  rintro e w1 ⟨rfl, hb1⟩
  have A0 := A0.ext hb1; have B0 := B0.ext hb1
  have E := ext_trans E hb1
  obtain ⟨rc0, rz0⟩ := (A0).rules; have rl0 := (A0).lt
  obtain ⟨rc1, rz1⟩ := (B0).rules; have rl1 := (B0).lt
  cases h1 : p.implies q
  · have Hf : Hid (p.alike q = false) := by simp [Pl.alike, h1]; exact Lib.hid trivial
    clear h1
    go_wp2_with fail
    go_ret
    exact ⟨by rw [Hf.out]; rfl, E⟩
  have Hf : Hid (p.alike q = q.implies p) := by simp [Pl.alike, h1]; exact Lib.hid trivial
  clear h1
  go_wp2_with fail
  refine (spec_ImpliesOk q p _ _ _ (HQ.out.ext E) (HP.out.ext E)).mono ?_
  rintro e w2 ⟨rfl, hb2⟩
  go_wp2_with fail
  go_ret
  exact ⟨by rw [Hf.out]; rfl, ext_trans E hb2⟩
end Go.Proofs.Ytpccfkbpnfbdaaa
