/- The draw of a plan whose points hang together: spec.l20Joined. No condition but that the reader can be read. -/
import Derived.Test.YtffcfambgcaikaaDrawPlan
import Derived.Test.YtffcfambgcaikaaPlanOut
namespace Go.Proofs.Ytffcfambgcaikaa
open Go.RowKit
set_option linter.unusedVariables false
set_option linter.unusedSimpArgs false
theorem withBoundJ (p : Pl) (x y z : Int) (bs : Value) (w : World) (hv : Bds w 0 bs p.bs) (hlen : p.bs.length ≤ 1900000) :
    Calls Try.prog 94 #[.agg #[.int .i64 p.pts, bs], .agg #[.int .i64 x, .int .i64 y, .int .i64 z]] w fun e w' => ∃ (P : Pl) (s : Value) (ok : Bool), e = .returned (.tuple #[.agg #[.int .i64 P.pts, s], .bool ok]) ∧ Bds w' w.heap.size s P.bs ∧ (ok = true → P.bs.length ≤ 16 ∧ 0 ≤ P.pts ∧ P.pts ≤ 7) ∧ Below w.heap.size w w' := by
  refine (spec_WithBound p ⟨x, y, z⟩ bs w hv hlen).mono ?_
  rintro e w' ⟨s, rfl, h1, h2⟩
  refine ⟨_, s, _, rfl, h1, fun hok => ?_, h2⟩
  have e1 : (p.plus [⟨x, y, z⟩]).told = p.plus [⟨x, y, z⟩] := if_pos hok
  rw [e1]
  simp only [Pl.ok, Bool.and_eq_true, decide_eq_true_eq, inB_iff] at hok
  exact ⟨hok.2.1, by omega, by omega⟩
/-- what a round has in hand: a plan in its cell, the reader -/
structure JS (w : World) (b g m B gp W : Nat) (P : Pl) (v : Value) (wx : World) : Prop where
  l : P.bs.length ≤ 16
  p0 : 0 ≤ P.pts
  p7 : P.pts ≤ 7
  bd : Bds wx W v P.bs
  bx : Box wx gp 25 #[.int .i64 P.pts, v]
  rd : Rd wx B g m
  gr : w.grownBy wx (some g)
  r0 : Box wx w.heap.size 25 #[.int .i64 0, .slice none 0 0]
theorem JS.ext {w : World} {b g m B gp W : Nat} {P : Pl} {v : Value} {wx wy : World} (h : JS w b g m B gp W P v wx) (hb : Below wx.heap.size wx wy) : JS w b g m B gp W P v wy :=
  ⟨h.l, h.p0, h.p7, h.bd.ext hb, h.bx.ext hb, h.rd.ext hb, grown_ext' h.gr hb, h.r0.ext hb⟩
theorem JS.pick {w : World} {b g m m' B gp W : Nat} {P : Pl} {v : Value} {wx wy : World} (h : JS w b g m B gp W P v wx) (hg : wx.grownBy wy (some g)) (hr : Rd wy B g m') (h1 : g < W) (h2 : g < gp) (h3 : g < w.heap.size) : JS w b g m' B gp W P v wy :=
  ⟨h.l, h.p0, h.p7, h.bd.near hg h1, h.bx.near hg h2, hr, grown_trans' h.gr hg, h.r0.near hg h3⟩
theorem JS.mono {w : World} {b g m m' B gp W : Nat} {P : Pl} {v : Value} {wx : World} (h : JS w b g m B gp W P v wx) (hm : m ≤ m') : JS w b g m' B gp W P v wx := { h with rd := h.rd.mono hm }
/-- another plan is laid into the cell -/
theorem JS.put {w : World} {b g m B gp W : Nat} {P Q : Pl} {v u : Value} {wx : World} (h : JS w b g m B gp W P v wx) (hq : Bds wx W u Q.bs) (h1 : Q.bs.length ≤ 16 ∧ 0 ≤ Q.pts ∧ Q.pts ≤ 7) (h2 : B ≤ gp) (h3 : g ≠ gp) (h4 : w.heap.size < gp) :
    JS w b g m B gp W Q u ((wx.setCell ⟨gp, 0, none⟩ (.int .i64 Q.pts)).setCell ⟨gp, 1, none⟩ u) := by
  have hne := own_not_box hq h.bx
  refine ⟨h1.1, h1.2.1, h1.2.2, ?_, (h.bx.set 0 _).set 1 _, (h.rd.set (by dsimp only; omega) (by dsimp only; omega) _).set (by dsimp only; omega) (by dsimp only; omega) _, grown_set' (grown_set' h.gr (by omega) _) (by omega) _, (h.r0.far (by dsimp only; omega) _).far (by dsimp only; omega) _⟩
  exact own_far hq (grown_set (grown_set (World.grownBy.refl wx _) _) _) (fun k hk e => hne (by rw [hk]; exact e))
/-- a store elsewhere -/
theorem JS.away {w : World} {b g m B gp W : Nat} {P : Pl} {v : Value} {wx : World} (h : JS w b g m B gp W P v wx) {gx : Nat} {xs : Array Value} (hx : Box wx gx 25 xs) (h2 : B ≤ gx) (h3 : g ≠ gx) (h4 : w.heap.size < gx) (h5 : gp ≠ gx) (i : Nat) (u : Value) :
    JS w b g m B gp W P v (wx.setCell ⟨gx, i, none⟩ u) := by
  have hne := own_not_box h.bd hx
  exact ⟨h.l, h.p0, h.p7, own_far h.bd (grown_set (World.grownBy.refl wx _) _) (fun k hk e => hne (by rw [hk]; exact e)), h.bx.far h5 _, h.rd.set (by dsimp only; omega) (by dsimp only; omega) _, grown_set' h.gr (by omega) _, h.r0.far (by dsimp only; omega) _⟩
set_option maxRecDepth 100000 in
set_option maxHeartbeats 8000000 in
theorem spec_l20Joined (B g m : Nat) (n : Int) (w : World) (h : Rd w B g m) (hm : m ≤ 90000) (hn : 0 ≤ n) :
    Calls Try.prog 72 #[.pointer (some ⟨g, 0, none⟩), .int .i64 n] w fun e w' => ∃ (bs : Value) (p : Pl), e = .returned (.agg #[.int .i64 p.pts, bs]) ∧ Bds w' w.heap.size bs p.bs ∧ p.bs.length ≤ 16 ∧ 0 ≤ p.pts ∧ p.pts ≤ 7 ∧ Rd w' B g (m+250) ∧ w.grownBy w' (some g) := by
  have R := Lib.hid h
  have hgl := h.lt
  clear h
  go_enter Try.func72, Try.ntmps72
  go_wp2_with fail
  obtain ⟨W, hW, R0, hs, E⟩ := one_box w #[.int .i64 0, .slice none 0 0] 25
  rw [← hW.out]
  have G := Lib.hid (grown_of_ext (some g) E)
  have R := Lib.hid (R.out.ext E)
  clear E
  refine (spec_l20Plan B g m n W R.out (by omega) hn).mono ?_
  rintro e w1 ⟨bs, p, rfl, hbs, hl, h0, h7, hr, hgw⟩
  have R0 := R0.near hgw (by omega)
  have hq1 := hgw.size
  obtain ⟨av, cv, rfl, -⟩ := hbs.open
  go_upto_region 2 with fail
  obtain ⟨w2, hw2, P0, hs2, E2⟩ := one_box w1 #[.int .i64 p.pts, .slice av p.bs.length cv] 25
  rw [← hw2.out]
  have J : Hid (JS w 0 g (m + 200) B w1.heap.size W.heap.size p (.slice av p.bs.length cv) w2) := Lib.hid ⟨by omega, h0, h7, hbs.ext E2, P0, hr.ext E2, grown_ext' (grown_trans' G.out hgw) E2, R0.ext E2⟩
  clear hbs hr hgw E2 P0 R0 R G
  go_wp2_with fail
  refine (spec_pick B g _ 3 _ J.out.rd (by omega)).mono ?_
  rintro e w3 ⟨x3, rfl, hx3, hy3, hr, hgw, -⟩
  have J := Lib.hid (J.out.pick hgw hr (by omega) (by omega) (by omega))
  have q3 := hgw.size
  clear hr hgw
  have ret : Hid (∀ (wx : World) (P : Pl) (v : Value), JS w 0 g (m + 249) B w1.heap.size W.heap.size P v wx → ∃ (bs : Value) (p : Pl), (Ending.returned (.agg #[.int .i64 P.pts, v])) = .returned (.agg #[.int .i64 p.pts, bs]) ∧ Bds ((wx.setCell ⟨w.heap.size, 0, none⟩ (.int .i64 P.pts)).setCell ⟨w.heap.size, 1, none⟩ v) w.heap.size bs p.bs ∧ p.bs.length ≤ 16 ∧ 0 ≤ p.pts ∧ p.pts ≤ 7 ∧ Rd ((wx.setCell ⟨w.heap.size, 0, none⟩ (.int .i64 P.pts)).setCell ⟨w.heap.size, 1, none⟩ v) B g (m+250) ∧ w.grownBy ((wx.setCell ⟨w.heap.size, 0, none⟩ (.int .i64 P.pts)).setCell ⟨w.heap.size, 1, none⟩ v) (some g)) := Lib.hid fun wx P v hj =>
    ⟨v, P, rfl, ((hj.bd.low (by dsimp only; omega) _).low (by dsimp only; omega) _).base (by omega), hj.l, hj.p0, hj.p7, ((hj.rd.set (by dsimp only; omega) (by dsimp only; omega) _).set (by dsimp only; omega) (by dsimp only; omega) _).mono (by omega), grown_set' (grown_set' hj.gr (Nat.le_refl _) _) (Nat.le_refl _) _⟩
  by_cases hx : x3 = 0
  · have hxb : (x3 == 0) = true := by simp [hx]
    have Hx := Lib.hid hx
    clear hx
    obtain ⟨rc0, rz0⟩ := (J.out.bx).rules; have rl0 := (J.out.bx).lt
    obtain ⟨rc1, rz1⟩ := (J.out.r0).rules; have rl1 := (J.out.r0).lt
    go_wp2_with fail
    refine bodyPost_ret (v := .agg #[.int .i64 p.pts, .slice av p.bs.length cv]) (by simp [results, Try.results72, go_sem, *]) rfl ?_
    exact ret.out _ _ _ (J.out.mono (by omega))
  have hxb : (x3 == 0) = false := by simp [hx]
  have Hx := Lib.hid hx
  clear hx
  obtain ⟨rc0, rz0⟩ := (J.out.bx).rules; have rl0 := (J.out.bx).lt
  go_wp2_with fail
  refine (spec_PlanOk p _ _ (J.out.bd.base (Nat.zero_le _))).mono ?_
  rintro e w4 ⟨rfl, hb4⟩
  have J := Lib.hid (J.out.ext hb4)
  have q4 := hb4.size
  clear rc0 rz0 rl0 hb4
  obtain ⟨rc0, rz0⟩ := (J.out.bx).rules; have rl0 := (J.out.bx).lt
  obtain ⟨rc1, rz1⟩ := (J.out.r0).rules; have rl1 := (J.out.r0).lt
  cases hok : p.ok
  · clear hok
    go_wp2_with fail
    refine bodyPost_ret (v := .agg #[.int .i64 p.pts, .slice av p.bs.length cv]) (by simp [results, Try.results72, go_sem, *]) rfl ?_
    exact ret.out _ _ _ (J.out.mono (by omega))
  clear hok
  go_wp2_with fail
  clear rc0 rz0 rl0 rc1 rz1 rl1
  go_loopg [6] 8 (fun z kk wr => ∃ (k : Nat) (P : Pl) (a2 : Option Addr) (c2 : Nat), 1 ≤ k ∧ k ≤ 8 ∧ z = 9 - k ∧ kk = .int .i64 k ∧ Hid (JS w 0 g (m + 201 + 4 * k) B w1.heap.size W.heap.size P (.slice a2 P.bs.length c2) wr) ∧ w2.heap.size ≤ wr.heap.size)
  case atStart => exact ⟨1, p, av, cv, by omega, by omega, rfl, rfl, Lib.hid (J.out.mono (by omega)), by omega⟩
  case round =>
    clear J
    obtain ⟨k, P, a2, c2, hk1, hk8, hgk, rfl, J, hws⟩ := hrel
    have Hk := Lib.hid hgk
    clear hgk
    have p0 := J.out.p0
    have p7 := J.out.p7
    have l16 := J.out.l
    obtain ⟨rc0, rz0⟩ := (J.out.bx).rules; have rl0 := (J.out.bx).lt
    by_cases hlk : (k : Int) < P.pts
    · go_wp2_with fail
      refine (spec_pick B g _ 12 _ J.out.rd (by omega)).mono ?_
      rintro e w5 ⟨x5, rfl, hx5, hy5, hr, hgw, -⟩
      have J := Lib.hid (J.out.pick hgw hr (by omega) (by omega) (by omega))
      have q5 := hgw.size
      have hng : IntKind.i64.wrap (-x5) = -x5 := IntWalk.i64_in _ (by omega)
      clear hr hgw rc0 rz0 rl0
      obtain ⟨rc0, rz0⟩ := (J.out.bx).rules; have rl0 := (J.out.bx).lt
      go_wp2_with fail
      refine (withBoundJ P _ _ _ _ _ (J.out.bd.base (Nat.zero_le _)) (by omega)).mono ?_
      rintro e w6 ⟨Q, sv, ok, rfl, hQ, hQok, hb6⟩
      obtain ⟨a3, c3, rfl, -⟩ := hQ.open
      have J := Lib.hid (J.out.ext hb6)
      have X := Lib.hid hQ
      have HQ := Lib.hid hQok
      have q6 := hb6.size
      clear hQ hQok hb6 rc0 rz0 rl0
      obtain ⟨lq, hlq⟩ : ∃ n, Hid (n = Q.bs.length) := ⟨_, rfl⟩
      rw [← hlq.out] at X ⊢
      go_upto_region 9 with fail
      obtain ⟨w7, hw7, X0, hs7, E7⟩ := one_box w6 #[.int .i64 Q.pts, .slice a3 lq c3] 25
      rw [← hw7.out]
      have J := Lib.hid (J.out.ext E7)
      have X := Lib.hid ((X.out.ext E7).base (show W.heap.size ≤ w5.heap.size by omega))
      clear E7
      obtain ⟨gx, hgx⟩ : ∃ x, Hid (x = w6.heap.size) := ⟨_, rfl⟩
      have hgx2 : w2.heap.size ≤ gx := by rw [hgx.out]; omega
      have hgx3 : gx < w7.heap.size := by rw [hgx.out]; omega
      rw [← hgx.out] at X0 ⊢
      clear hgx
      go_upto_if 39 with fail
      go_cut [9] (fun v9 wx => ∃ (P2 : Pl) (a4 : Option Addr) (c4 : Nat) (y1 y2 : Value), JS w 0 g (m + 201 + 4 * k + 1) B w1.heap.size W.heap.size P2 (.slice a4 P2.bs.length c4) wx ∧ Box wx gx 25 #[y1, y2] ∧ gx < wx.heap.size)
      case first =>
        cases hokv : ok
        · clear hokv
          go_wp2_with fail
          go_meet
          exact ⟨P, a2, c2, _, _, J.out, X0, hgx3⟩
        · have hq := HQ.out hokv
          clear hokv
          obtain ⟨rc0, rz0⟩ := (J.out.bx).rules; have rl0 := (J.out.bx).lt
          obtain ⟨rc3, rz3⟩ := (X0).rules; have rl3 := (X0).lt
          go_wp2_with fail
          go_meet
          exact ⟨Q, a3, c3, _, _, by rw [← hlq.out]; exact J.out.put X.out hq (by omega) (by omega) (by omega), (X0.far (by dsimp only; omega) _).far (by dsimp only; omega) _, by simp; omega⟩
      rename World => w8
      obtain ⟨P2, a4, c4, y1, y2, hJ2, X0, hgx4⟩ := hcut
      have J := Lib.hid hJ2
      have hk7 : k + 1 ≤ 8 := by omega
      clear hJ2 X HQ hws q5 q6 hs7 hlk
      have p20 := J.out.p0
      have p27 := J.out.p7
      have l216 := J.out.l
      clear p0 p7 l16
      go_upto_region 11 with fail
      refine wp_region_held_drew (S := fun w' => w'.cell? ⟨w1.heap.size, 0, none⟩ = some (.int .i64 P2.pts) ∧ w'.cell? ⟨w1.heap.size, 1, none⟩ = some (.slice a4 P2.bs.length c4)) (by kernel_rfl) ?_ (fun hHeld => ?_)
      · exact ⟨J.out.bx.cell0 rfl, J.out.bx.cell0 rfl⟩
      obtain ⟨dw, hdw⟩ : ∃ d', Hid (d' = w8.drew) := ⟨_, rfl⟩
      have Ed : Below w8.heap.size w8 dw := by rw [hdw.out]; exact ext_drew (ext_refl _)
      rw [← hdw.out] at hHeld ⊢
      have J := Lib.hid (J.out.ext Ed)
      have X0 := X0.ext Ed
      have qd := Ed.size
      clear Ed
      try simp only [Act.put, List.setIfInBounds_toArray, List.set_cons_zero, List.set_cons_succ]
      refine wpAnyH_take (i := 0) (v := ?_) rfl (by kernel_rfl) (by kernel_rfl) (by kernel_rfl) (fun _ _ _ h => h) (Or.inl ⟨by rfl, fun w' hS' => ?_⟩) (by assumption) ?_
      rotate_left
      · (try dsimp only at hS'); go_simp; (try rw [if_pos (by omega)]); try with_reducible rfl
      try simp only [Act.put, List.getElem_toArray, List.getElem_cons_zero, List.getElem_cons_succ, List.setIfInBounds_toArray, List.set_cons_zero, List.set_cons_succ]
      refine wpAnyH_take (i := 1) (v := ?_) rfl (by kernel_rfl) (by kernel_rfl) (by kernel_rfl) (fun _ _ _ h => h) (Or.inl ⟨by rfl, fun w' hS' => ?_⟩) (by assumption) ?_
      rotate_left
      · (try dsimp only at hS'); go_simp; (try rw [if_pos (by omega)]); try with_reducible rfl
      try simp only [Act.put, List.getElem_toArray, List.getElem_cons_zero, List.getElem_cons_succ, List.setIfInBounds_toArray, List.set_cons_zero, List.set_cons_succ]
      refine wpAnyH_take (i := 2) (v := ?_) rfl (by kernel_rfl) (by kernel_rfl) (by kernel_rfl) (fun _ _ _ h => h) (Or.inl ⟨by rfl, fun w' hS' => ?_⟩) (by assumption) ?_
      rotate_left
      · (try dsimp only at hS'); go_simp; (try rw [if_pos (by omega)]); try with_reducible rfl
      try simp only [Act.put, List.getElem_toArray, List.getElem_cons_zero, List.getElem_cons_succ, List.setIfInBounds_toArray, List.set_cons_zero, List.set_cons_succ]
      refine wpAnyH_take (i := 3) (v := ?_) rfl (by kernel_rfl) (by kernel_rfl) (by kernel_rfl) (fun _ _ _ h => h) (Or.inl ⟨by rfl, fun w' hS' => ?_⟩) (by assumption) ?_
      rotate_left
      · (try dsimp only at hS'); go_simp; (try rw [if_pos (by omega)]); try with_reducible rfl
      try simp only [Act.put, List.getElem_toArray, List.getElem_cons_zero, List.getElem_cons_succ, List.setIfInBounds_toArray, List.set_cons_zero, List.set_cons_succ]
      refine wpAnyH_ready (rs := [4]) (by kernel_rfl) (by simp) ?_
      refine AllReadyH.cons rfl (fun K' hK => ?_) AllReadyH.nil
      refine if_yes (by rfl) ?_
      try simp only [Act.put, List.getElem_toArray, List.getElem_cons_zero, List.getElem_cons_succ, List.setIfInBounds_toArray, List.set_cons_zero, List.set_cons_succ]
      go_simp
      refine (spec_pick B g _ 12 _ J.out.rd (by omega)).mono ?_
      rintro e w9 ⟨x9, rfl, hx9, hy9, hr, hgw, -⟩
      have J := Lib.hid (J.out.pick hgw hr (by omega) (by omega) (by omega))
      have X0 := X0.near hgw (by omega)
      have q9 := hgw.size
      have hwy : IntKind.i64.wrap (x5 + x9) = x5 + x9 := IntWalk.i64_in _ (by omega)
      clear hr hgw
      go_wp2_with fail
      refine hK.out _ _ ?_ (fun hHeld => ?_)
      · exact ⟨J.out.bx.cell0 rfl, J.out.bx.cell0 rfl⟩
      clear hK K'
      try simp only [Act.put, List.getElem_toArray, List.getElem_cons_zero, List.getElem_cons_succ, List.setIfInBounds_toArray, List.set_cons_zero, List.set_cons_succ]
      refine wpAnyH_take (i := 5) (v := ?_) rfl (by kernel_rfl) (by kernel_rfl) (by kernel_rfl) (fun _ _ _ h => h) (Or.inl ⟨by rfl, fun w' hS' => ?_⟩) (by assumption) ?_
      rotate_left
      · (try dsimp only at hS'); go_simp; (try rw [if_pos (by omega)]); try with_reducible rfl
      try simp only [Act.put, List.getElem_toArray, List.getElem_cons_zero, List.getElem_cons_succ, List.setIfInBounds_toArray, List.set_cons_zero, List.set_cons_succ]
      refine wpAnyH_take (i := 6) (v := ?_) rfl (by kernel_rfl) (by kernel_rfl) (by kernel_rfl) (fun _ _ _ h => h) (Or.inl ⟨by rfl, fun w' hS' => ?_⟩) (by assumption) ?_
      rotate_left
      · (try dsimp only at hS'); go_simp; (try rw [if_pos (by omega)]); try with_reducible rfl
      try simp only [Act.put, List.getElem_toArray, List.getElem_cons_zero, List.getElem_cons_succ, List.setIfInBounds_toArray, List.set_cons_zero, List.set_cons_succ]
      refine wpAnyH_ready (rs := [7]) (by kernel_rfl) (by simp) ?_
      refine AllReadyH.cons rfl (fun K' hK => ?_) AllReadyH.nil
      refine if_yes (by rfl) ?_
      try simp only [Act.put, List.getElem_toArray, List.getElem_cons_zero, List.getElem_cons_succ, List.setIfInBounds_toArray, List.set_cons_zero, List.set_cons_succ]
      go_simp
      refine (withBoundJ P2 _ _ _ _ _ (J.out.bd.base (Nat.zero_le _)) (by omega)).mono ?_
      rintro e w10 ⟨Q2, sv2, ok2, rfl, hQ2, hQ2ok, hb10⟩
      obtain ⟨a5, c5, rfl, -⟩ := hQ2.open
      have J := Lib.hid (J.out.ext hb10)
      have X0 := X0.ext hb10
      have X2 := Lib.hid (hQ2.base (show W.heap.size ≤ w9.heap.size by omega))
      have HQ2 := Lib.hid hQ2ok
      have X2lt := Lib.hid hQ2.lt
      have q10 := hb10.size
      clear hQ2 hQ2ok hb10
      obtain ⟨lq2, hlq2⟩ : ∃ n, Hid (n = Q2.bs.length) := ⟨_, rfl⟩
      rw [← hlq2.out] at X2 X2lt ⊢
      go_wp2_with fail
      refine hK.out _ _ ?_ (fun hHeld => ?_)
      · exact ⟨J.out.bx.cell0 rfl, J.out.bx.cell0 rfl⟩
      clear hK K'
      try simp only [Act.put, List.getElem_toArray, List.getElem_cons_zero, List.getElem_cons_succ, List.setIfInBounds_toArray, List.set_cons_zero, List.set_cons_succ]
      refine wpAnyH_take (i := 8) (v := ?_) rfl (by kernel_rfl) (by kernel_rfl) (by kernel_rfl) (fun _ _ _ h => h) (Or.inl ⟨by rfl, fun w' hS' => ?_⟩) (by assumption) ?_
      rotate_left
      · (try dsimp only at hS'); go_simp; (try rw [if_pos (by omega)]); try with_reducible rfl
      try simp only [Act.put, List.getElem_toArray, List.getElem_cons_zero, List.getElem_cons_succ, List.setIfInBounds_toArray, List.set_cons_zero, List.set_cons_succ]
      refine wpAnyH_take (i := 9) (v := ?_) rfl (by kernel_rfl) (by kernel_rfl) (by kernel_rfl) (fun _ _ _ h => h) (Or.inl ⟨by rfl, fun w' hS' => ?_⟩) (by assumption) ?_
      rotate_left
      · (try dsimp only at hS'); go_simp; (try rw [if_pos (by omega)]); try with_reducible rfl
      try simp only [Act.put, List.getElem_toArray, List.getElem_cons_zero, List.getElem_cons_succ, List.setIfInBounds_toArray, List.set_cons_zero, List.set_cons_succ]
      refine wpAnyH_take (i := 10) (v := ?_) rfl (by kernel_rfl) (by kernel_rfl) (by kernel_rfl) (fun _ _ _ h => h) (Or.inl ⟨by rfl, fun w' hS' => ?_⟩) (by assumption) ?_
      rotate_left
      · (try dsimp only at hS'); go_simp; (try rw [if_pos (by omega)]); try with_reducible rfl
      try simp only [Act.put, List.getElem_toArray, List.getElem_cons_zero, List.getElem_cons_succ, List.setIfInBounds_toArray, List.set_cons_zero, List.set_cons_succ]
      obtain ⟨rc3, rz3⟩ := (X0).rules; have rl3 := (X0).lt
      refine wpAnyH_ready (rs := [11]) (by kernel_rfl) (by simp) ?_
      refine AllReadyH.cons rfl (fun K' hK => ?_) AllReadyH.nil
      refine if_yes (by rfl) ?_
      try simp only [Act.put, List.getElem_toArray, List.getElem_cons_zero, List.getElem_cons_succ, List.setIfInBounds_toArray, List.set_cons_zero, List.set_cons_succ]
      go_simp
      obtain ⟨w11, hw11⟩ : ∃ x, Hid (x = (w10.setCell ⟨gx, 0, none⟩ (.int .i64 Q2.pts)).setCell ⟨gx, 1, none⟩ (.slice a5 lq2 c5)) := ⟨_, rfl⟩
      have X1 := X0.set 0 (.int .i64 Q2.pts)
      have J := Lib.hid ((J.out.away X0 (by omega) (by omega) (by omega) (by omega) 0 (.int .i64 Q2.pts)).away X1 (by omega) (by omega) (by omega) (by omega) 1 (.slice a5 lq2 c5))
      have X0 := X1.set 1 (.slice a5 lq2 c5)
      have X2 : Hid (Bds w11 W.heap.size (.slice a5 lq2 c5) Q2.bs) := by
        rw [hw11.out]
        exact Lib.hid (own_far X2.out (grown_set (grown_set (World.grownBy.refl w10 (some gx)) _) _) (fun q hq e => by have := X2lt.out q hq; injection e with e; omega))
      have q11 : w10.heap.size ≤ w11.heap.size := by rw [hw11.out]; simp
      rw [← hw11.out] at J X0 ⊢
      refine hK.out _ _ ?_ (fun hHeld => ?_)
      · exact ⟨J.out.bx.cell0 rfl, J.out.bx.cell0 rfl⟩
      clear hK K' rc3 rz3 rl3 X1
      try simp only [Act.put, List.setIfInBounds_toArray, List.set_cons_zero, List.set_cons_succ]
      refine wpAnyH_take (i := 12) (v := ?_) rfl (by kernel_rfl) (by kernel_rfl) (by kernel_rfl) (fun _ _ _ h => h) (Or.inl ⟨by rfl, fun w' hS' => ?_⟩) (by assumption) ?_
      rotate_left
      · (try dsimp only at hS'); go_simp; (try rw [if_pos (by omega)]); try with_reducible rfl
      try simp only [Act.put, List.getElem_toArray, List.getElem_cons_zero, List.getElem_cons_succ, List.setIfInBounds_toArray, List.set_cons_zero, List.set_cons_succ]
      refine wpAnyH_done (by kernel_rfl) ?_ _
      try simp only [Act.put, List.setIfInBounds_toArray, List.set_cons_zero, List.set_cons_succ]
      cases hokv : ok2
      · clear hokv
        go_wp2_with fail
        go_roundg (9 - (k+1))
        case rel => exact ⟨k+1, P2, a4, c4, by omega, by omega, rfl, by go_num, Lib.hid (J.out.mono (by omega)), by omega⟩
        case measure => have := Hk.out; omega
      · have hq := HQ2.out hokv
        clear hokv
        obtain ⟨rc0, rz0⟩ := (J.out.bx).rules; have rl0 := (J.out.bx).lt
        obtain ⟨rc3, rz3⟩ := (X0).rules; have rl3 := (X0).lt
        go_wp2_with fail
        go_roundg (9 - (k+1))
        case rel => exact ⟨k+1, Q2, a5, c5, by omega, by omega, rfl, by go_num, Lib.hid (by rw [← hlq2.out]; exact (J.out.put X2.out hq (by omega) (by omega) (by omega)).mono (by omega)), by simp; omega⟩
        case measure => have := Hk.out; omega
    · have J249 := Lib.hid (J.out.mono (show _ ≤ m + 249 by omega))
      obtain ⟨rc1, rz1⟩ := (J.out.r0).rules; have rl1 := (J.out.r0).lt
      go_wp2_with fail
      refine bodyPost_ret (v := .agg #[.int .i64 P.pts, .slice a2 P.bs.length c2]) (by simp [results, Try.results72, go_sem, *]) rfl ?_
      exact ret.out _ _ _ J249.out
end Go.Proofs.Ytffcfambgcaikaa
