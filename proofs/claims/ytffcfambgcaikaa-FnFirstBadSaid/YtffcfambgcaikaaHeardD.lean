/- The draws of a plan and happenings: l20Heard, l20Later and what is drawn by them. No condition but that the reader, or the code's bytes, can be read. -/
import Derived.Test.YtffcfambgcaikaaJoined
import Derived.Test.YtffcfambgcaikaaWaitS
import Derived.Test.YtffcfambgcaikaaTailb
namespace Go.Proofs.Ytffcfambgcaikaa
open Go.RowKit
set_option linter.unusedVariables false
set_option linter.unusedSimpArgs false
theorem own_offH {w : World} {base : Nat} {e t : TypeId} {size : Nat} {v : Value} {n : Nat} {xs : List Value} (h : w.ownsRow base e size v n xs) {g : Nat} {ys : Array Value} (hb : Box w g t ys) (he : t ≠ e) : some g ≠ v.ownBlock := by
  intro e'
  rcases h.2 with ⟨rfl, _⟩ | ⟨g', cap, cur, rfl, hg, hh, _⟩
  · cases e'
  · simp only [Value.ownBlock, Option.some.injEq] at e'
    subst e'
    unfold Box at hb
    rw [hh] at hb
    injection hb with hb
    injection hb with h1 h2
    exact he h2.symm
theorem Hps.near {w w' : World} {base g : Nat} {v : Value} {l : List Hp} (h : Hps w base v l) (hg : w.grownBy w' (some g)) (hne : g < base) : Hps w' base v l := own_near h hg hne
structure HS (w : World) (g m B gp W : Nat) (p : Pl) (v1 : Value) (o : List Hp) (vo : Value) (wx : World) : Prop where
  bd : Bds wx W v1 p.bs
  hp : Hps wx W vo o
  bx : Box wx gp 25 #[.int .i64 p.pts, v1]
  rd : Rd wx B g m
  gr : w.grownBy wx (some g)
  r0 : Box wx w.heap.size 25 #[.int .i64 0, .slice none 0 0]
  tm : ∀ j, j < o.length → -1 ≤ (hA o j).tm ∧ (hA o j).tm ≤ 2003
section
variable {w wx wy : World} {g m m' B gp W : Nat} {p : Pl} {v1 vo : Value} {o : List Hp}
theorem HS.ext (h : HS w g m B gp W p v1 o vo wx) (hb : Below wx.heap.size wx wy) : HS w g m B gp W p v1 o vo wy :=
  ⟨h.bd.ext hb, h.hp.ext hb, h.bx.ext hb, h.rd.ext hb, grown_ext' h.gr hb, h.r0.ext hb, h.tm⟩
theorem HS.pick (h : HS w g m B gp W p v1 o vo wx) (hg : wx.grownBy wy (some g)) (hr : Rd wy B g m') (h1 : g < W) (h2 : g < gp) (h3 : g < w.heap.size) : HS w g m' B gp W p v1 o vo wy :=
  ⟨h.bd.near hg h1, h.hp.near hg h1, h.bx.near hg h2, hr, grown_trans' h.gr hg, h.r0.near hg h3, h.tm⟩
theorem HS.mono (h : HS w g m B gp W p v1 o vo wx) (hm : m ≤ m') : HS w g m' B gp W p v1 o vo wx := { h with rd := h.rd.mono hm }
theorem HS.away (h : HS w g m B gp W p v1 o vo wx) {gx : Nat} {xs : Array Value} (hx : Box wx gx 30 xs) (h2 : B ≤ gx) (h3 : g ≠ gx) (h4 : w.heap.size < gx) (h5 : gp ≠ gx) (h6 : ∀ q, vo.ownBlock = some q → q < gx) (i : Nat) (u : Value) :
    HS w g m B gp W p v1 o vo (wx.setCell ⟨gx, i, none⟩ u) := by
  have hne := own_offH h.bd hx (by decide)
  exact ⟨own_far h.bd (grown_set (World.grownBy.refl wx _) _) (fun k hk e => hne (by rw [hk]; exact e)), own_far h.hp (grown_set (World.grownBy.refl wx _) _) (fun k hk e => by have := h6 k hk; injection e with e; omega), h.bx.far h5 _, h.rd.set (by dsimp only; omega) (by dsimp only; omega) _, grown_set' h.gr (by omega) _, h.r0.far (by dsimp only; omega) _, h.tm⟩
theorem HS.app (h : HS w g m B gp W p v1 o vo wx) {x : Hp} {v' : Value} (hv : Hps wy W v' (o ++ [x])) (hg : wx.grownBy wy vo.ownBlock) (h1 : g < W) (h2 : B ≤ W) (h3 : w.heap.size < W) (hx : -1 ≤ x.tm ∧ x.tm ≤ 2003) : HS w g m B gp W p v1 (o ++ [x]) v' wy := by
  have hl := h.hp.lt
  refine ⟨h.bd.far hg (fun q hq => own_ne h.bd h.hp (by decide) q hq), hv, h.bx.grown hg (own_offH h.hp h.bx (by decide)), h.rd.grown hg (fun e => by have := (hl _ e.symm).1; omega) (fun k hk => by have := (hl k hk).1; omega), grown_high h.gr hg (fun k hk => by have := (hl k hk).1; omega), h.r0.grown hg (fun e => by have := (hl _ e.symm).1; omega), fun j hj => ?_⟩
  rw [hA_snoc]
  rw [List.length_append, List.length_singleton] at hj
  by_cases e : j < o.length
  · rw [if_pos e]; exact h.tm j e
  · rw [if_neg e, if_pos (by omega)]; exact hx
end
def RetHeard (w : World) (B g m : Nat) : Ending → World → Prop := fun e w' => ∃ (v1 v2 : Value) (p : Pl) (l : List Hp), e = .returned (.tuple #[.agg #[.int .i64 p.pts, v1], v2]) ∧ Bds w' w.heap.size v1 p.bs ∧ Hps w' w.heap.size v2 l ∧ p.bs.length ≤ 16 ∧ l.length ≤ 6 ∧ 0 ≤ p.pts ∧ p.pts ≤ 7 ∧
  (∀ j, j < l.length → -1 ≤ (hA l j).tm ∧ (hA l j).tm ≤ 2003) ∧ Rd w' B g m ∧ w.grownBy w' (some g)
set_option maxRecDepth 100000 in
set_option maxHeartbeats 16000000 in
theorem spec_l20Heard (B g m : Nat) (w : World) (h : Rd w B g m) (hm : m ≤ 80000) :
    Calls Try.prog 40 #[.pointer (some ⟨g, 0, none⟩)] w (RetHeard w B g (m + 400)) := by
  have R := Lib.hid h
  have hgl := h.lt
  clear h
  go_enter Try.func40, Try.ntmps40
  go_wp2_with fail
  obtain ⟨W, hW, R0, hs, E⟩ := one_box w #[.int .i64 0, .slice none 0 0] 25
  rw [← hW.out]
  have G := Lib.hid (grown_of_ext (some g) E)
  have R := Lib.hid (R.out.ext E)
  clear E
  refine (spec_l20Joined B g m 12 W R.out (by omega) (by omega)).mono ?_
  rintro e w1 ⟨bs, p, rfl, hbs, hl, h0, h7, hr, hgw⟩
  have R0 := R0.near hgw (by omega)
  have hq1 := hgw.size
  obtain ⟨av, cv, rfl, -⟩ := hbs.open
  obtain ⟨nb, hnb⟩ : ∃ n, Hid (n = p.bs.length) := ⟨_, rfl⟩
  rw [← hnb.out] at hbs ⊢
  go_upto_region 2 with fail
  obtain ⟨w2, hw2, P0, hs2, E2⟩ := one_box w1 #[.int .i64 p.pts, .slice av nb cv] 25
  rw [← hw2.out]
  go_upto_region 3 with fail
  obtain ⟨w3, hw3, T0, hs3, E3⟩ := one_box w2 #[] 30
  rw [← hw3.out]
  have J : Hid (HS w g (m + 250) B w1.heap.size W.heap.size p (.slice av nb cv) [] (.slice (some ⟨w2.heap.size, 0, none⟩) 0 0) w3) := Lib.hid ⟨(hbs.ext E2).ext E3, Hps.ofBox T0 (by omega), P0.ext E3, (hr.ext E2).ext E3, grown_ext' (grown_ext' (grown_trans' G.out hgw) E2) E3, (R0.ext E2).ext E3, fun j hj => by simp at hj⟩
  clear hbs hr hgw E2 E3 P0 R0 R G T0
  go_wp2_with fail
  refine (spec_pick B g _ 6 _ J.out.rd (by omega)).mono ?_
  rintro e w4 ⟨x4, rfl, hx4, hy4, hr, hgw, -⟩
  have J := Lib.hid (J.out.pick hgw hr (by omega) (by omega) (by omega))
  have q4 := hgw.size
  clear hr hgw
  obtain ⟨i, rfl⟩ : ∃ i : Nat, x4 = (i : Int) := ⟨x4.toNat, by omega⟩
  have hi6 : i < 6 := by omega
  have ret : Hid (∀ (wx : World) (o : List Hp) (vo : Value), HS w g (m + 390) B w1.heap.size W.heap.size p (.slice av nb cv) o vo wx → o.length ≤ 6 → RetHeard w B g (m + 400) (.returned (.tuple #[.agg #[.int .i64 p.pts, .slice av nb cv], vo])) ((wx.setCell ⟨w.heap.size, 0, none⟩ (.int .i64 p.pts)).setCell ⟨w.heap.size, 1, none⟩ (.slice av nb cv))) := Lib.hid fun wx o vo hj ho =>
    ⟨_, _, p, o, rfl, ((hj.bd.low (by dsimp only; omega) _).low (by dsimp only; omega) _).base (by omega), ((hj.hp.low (by dsimp only; omega) _).low (by dsimp only; omega) _).base (by omega), hl, ho, h0, h7, hj.tm, ((hj.rd.set (by dsimp only; omega) (by dsimp only; omega) _).set (by dsimp only; omega) (by dsimp only; omega) _).mono (by omega), grown_set' (grown_set' hj.gr (Nat.le_refl _) _) (Nat.le_refl _) _⟩
  go_wp2_with fail
  go_loopg [5, 6] (i + 1) (fun z lo kk wr => ∃ (k M : Nat) (o : List Hp) (ao : Option Addr) (co : Nat), k ≤ 5 ∧ z = k + 1 ∧ kk = .int .i64 k ∧ lo = .slice ao M co ∧ Hid (o.length = M) ∧ M + k ≤ 5 ∧ Hid (HS w g (m + 380 - 20 * k) B w1.heap.size W.heap.size p (.slice av nb cv) o (.slice ao M co) wr) ∧ w1.heap.size < wr.heap.size)
  case atStart => exact ⟨i, 0, [], _, _, by omega, rfl, rfl, rfl, Lib.hid rfl, by omega, Lib.hid (J.out.mono (by omega)), by omega⟩
  case round =>
    clear J
    obtain ⟨k, M, o, ao, co, hk5, hgk, rfl, rfl, HM, hMk, J, hws⟩ := hrel
    have Hk := Lib.hid hgk
    clear hgk
    by_cases hk0 : 0 < k
    · have hk0i : (0 : Int) < (k : Int) := by omega
      obtain ⟨rc0, rz0⟩ := (J.out.bx).rules; have rl0 := (J.out.bx).lt
      go_wp2_with fail
      refine (spec_NextOf p _ _ o _ (J.out.bd.base (Nat.zero_le _)) (J.out.hp.base (Nat.zero_le _)) (by rw [HM.out]; omega)).mono ?_
      rintro e w5 ⟨rfl, hb5⟩
      obtain ⟨h, hh⟩ : ∃ h, Hid (h = p.next o) := ⟨_, rfl⟩
      rw [← hh.out]
      unfold Hp.val
      have J := Lib.hid (J.out.ext hb5)
      have Jlt := Lib.hid J.out.hp.lt
      have q5 := hb5.size
      clear rc0 rz0 rl0 hb5
      go_upto_region 7 with fail
      obtain ⟨w6, hw6, B0, hs6, E6⟩ := one_box w5 #[.int .i64 h.pt, .int .i64 h.tm] 30
      rw [← hw6.out]
      have J := Lib.hid (J.out.ext E6)
      obtain ⟨gh, hgh⟩ : ∃ x, Hid (x = w5.heap.size) := ⟨_, rfl⟩
      have hgh1 : w1.heap.size < gh := by rw [hgh.out]; omega
      have hgh2 : gh < w6.heap.size := by rw [hgh.out]; omega
      have Jlt : Hid (∀ q, (Value.slice ao M co).ownBlock = some q → q < gh) := Lib.hid fun q hq => by rw [hgh.out]; exact (Jlt.out q hq).2
      rw [← hgh.out] at B0 ⊢
      clear hgh E6
      cases hok : p.nextOk o
      · -- none may be next
        clear hok
        go_wp2_with fail
        have J := Lib.hid (J.out.mono (show _ ≤ m + 380 by omega))
        have hM6 : M ≤ 5 := by omega
        obtain ⟨ws, rfl⟩ : ∃ x, x = w6 := ⟨_, rfl⟩
        refine (spec_odd B g _ 12 _ J.out.rd (by omega) (by omega)).mono ?_
        rintro e u1 ⟨b1, rfl, hr, hgw, -⟩
        have J := Lib.hid (J.out.pick hgw hr (by omega) (by omega) (by omega))
        have v1 := hgw.size
        clear hr hgw
        cases b1
        · obtain ⟨rc1, rz1⟩ := (J.out.bx).rules; have rl1 := (J.out.bx).lt
          obtain ⟨rc2, rz2⟩ := (J.out.r0).rules; have rl2 := (J.out.r0).lt
          go_wp2_with fail
          refine bodyPost_ret (v := .tuple #[.agg #[.int .i64 p.pts, .slice av nb cv], .slice ao M co]) (by simp [results, Try.results40, go_sem, *]) rfl ?_
          exact ret.out _ _ _ (J.out.mono (by omega)) (by rw [HM.out]; omega)
        · go_wp2_with fail
          refine (spec_pick B g _ 7 _ J.out.rd (by omega)).mono ?_
          rintro e u2 ⟨y2, rfl, hy20, hy2, hr, hgw, -⟩
          have J := Lib.hid (J.out.pick hgw hr (by omega) (by omega) (by omega))
          have v2 := hgw.size
          clear hr hgw
          go_wp2_with fail
          refine (spec_pick B g _ 30 _ J.out.rd (by omega)).mono ?_
          rintro e u3 ⟨y3, rfl, hy30, hy3, hr, hgw, -⟩
          have J := Lib.hid (J.out.pick hgw hr (by omega) (by omega) (by omega))
          have v3 := hgw.size
          clear hr hgw
          go_wp2_with fail
          refine (spec_pick B g _ 9 _ J.out.rd (by omega)).mono ?_
          rintro e u4 ⟨y4, rfl, hy40, hy4, hr, hgw, -⟩
          have J := Lib.hid (J.out.pick hgw hr (by omega) (by omega) (by omega))
          have v4 := hgw.size
          clear hr hgw
          obtain ⟨y5, hy5⟩ : ∃ y, y4 / 8 = y := ⟨_, rfl⟩
          have hy5' : y4.tdiv 8 = y5 := by rw [Int.tdiv_eq_ediv_of_nonneg (by omega)]; exact hy5
          have hy5r : 0 ≤ y5 ∧ y5 ≤ 1 := by omega
          have hM2 : Hid ((o ++ [(⟨y2, y3 - y5⟩ : Hp)]).length = M + 1) := by rw [List.length_append, HM.out]; exact Lib.hid rfl
          have hwz : IntKind.i64.wrap (y3 - y5) = y3 - y5 := IntWalk.i64_in _ (by omega)
          go_upto_region 15 with (at_builtin; refine wpl_appHp _ rfl (.tmp 49) (.tmp 59) rfl W.heap.size 0 (.slice ao M co) o rfl (J.out.hp.alloc _) (.slice (some ⟨u4.heap.size, 0, none⟩) 1 1) [⟨y2, y3 - y5⟩] rfl ((Hps.lit u4 ⟨y2, y3 - y5⟩).base (Nat.zero_le _)) (by rw [HM.out]; simp; omega) (by simp; omega) ?_; intro v12 w12 hv12 hg12; obtain ⟨a12, c12, hav12, -⟩ := hv12.open; rw [hM2.out] at hav12; subst hav12)
          have J := Lib.hid ((J.out.ext (ext_alloc (ext_refl _) _)).app hv12 hg12 (by omega) (by omega) (by omega) ⟨by dsimp only; omega, by dsimp only; omega⟩)
          clear hv12 hg12
          obtain ⟨rc1, rz1⟩ := (J.out.bx).rules; have rl1 := (J.out.bx).lt
          obtain ⟨rc2, rz2⟩ := (J.out.r0).rules; have rl2 := (J.out.r0).lt
          go_wp2_with fail
          refine bodyPost_ret (v := .tuple #[.agg #[.int .i64 p.pts, .slice av nb cv], .slice a12 (M + 1) c12]) (by simp [results, Try.results40, go_sem, *]) rfl ?_
          exact ret.out _ _ _ (J.out.mono (by omega)) (by rw [hM2.out]; omega)
      have hnb : 0 ≤ h.tm ∧ h.tm ≤ 2000 := by
        obtain ⟨a1, a2, a3, a4, -⟩ := next_law hok
        have := last_in (next_in hok).1
        rw [hh.out]; omega
      clear hok
      go_wp2_with fail
      refine (spec_pick B g _ 3 _ J.out.rd (by omega)).mono ?_
      rintro e w7 ⟨x7, rfl, hx7, hy7, hr, hgw, -⟩
      have J := Lib.hid (J.out.pick hgw hr (by omega) (by omega) (by omega))
      have B0 := B0.near hgw (by omega)
      have q7 := hgw.size
      clear hr hgw
      go_upto_if 28 with fail
      go_cut [8] (fun v8 wx => ∃ (x y : Int), HS w g (m + 380 - 20 * k + 2) B w1.heap.size W.heap.size p (.slice av nb cv) o (.slice ao M co) wx ∧ Box wx gh 30 #[.int .i64 x, .int .i64 y] ∧ 0 ≤ y ∧ y ≤ 2003 ∧ gh < wx.heap.size)
      case first =>
        by_cases hx : x7 = 0
        · have hxb : (x7 == 0) = true := by simp [hx]
          have Hx := Lib.hid hx
          clear hx
          go_wp2_with fail
          refine wp_region_tailb 6 (by kernel_rfl) (by kernel_rfl) (fun w' => w'.cell? ⟨gh, 1, none⟩ = some (.int .i64 h.tm)) (B0.cell0 rfl) ?_
          intro hHeld
          obtain ⟨dw, hdw⟩ : ∃ d', Hid (d' = w7.drew) := ⟨_, rfl⟩
          have Ed : Below w7.heap.size w7 dw := by rw [hdw.out]; exact ext_drew (ext_refl _)
          rw [← hdw.out] at hHeld ⊢
          have J := Lib.hid (J.out.ext Ed)
          have B0 := B0.ext Ed
          have qd := Ed.size
          clear Ed
          simp only [List.pop_toArray, List.dropLast]
          try simp only [Act.put, List.setIfInBounds_toArray, List.set_cons_zero, List.set_cons_succ]
          refine wpAnyH_take (i := 0) (v := ?_) rfl (by kernel_rfl) (by kernel_rfl) (by kernel_rfl) (fun _ _ _ h => h) (Or.inl ⟨by rfl, fun w' hS' => ?_⟩) (by assumption) ?_
          rotate_left
          · (try dsimp only at hS'); go_simp; (try rw [if_pos (by omega)]); try with_reducible rfl
          try simp only [Act.put, List.getElem_toArray, List.getElem_cons_zero, List.getElem_cons_succ, List.setIfInBounds_toArray, List.set_cons_zero, List.set_cons_succ]
          refine wpAnyH_take (i := 1) (v := ?_) rfl (by kernel_rfl) (by kernel_rfl) (by kernel_rfl) (fun _ _ _ h => h) (Or.inl ⟨by rfl, fun w' hS' => ?_⟩) (by assumption) ?_
          rotate_left
          · (try dsimp only at hS'); go_simp; (try rw [if_pos (by omega)]); try with_reducible rfl
          try simp only [Act.put, List.getElem_toArray, List.getElem_cons_zero, List.getElem_cons_succ, List.setIfInBounds_toArray, List.set_cons_zero, List.set_cons_succ]
          refine wpAnyH_take (i := 2) (v := ?_) rfl (by kernel_rfl) (by kernel_rfl) (by kernel_rfl) (fun _ _ _ h => h) (Or.inl ⟨by rfl, fun w' hS' => ?_⟩) (by assumption) ?_
          rotate_left
          · (try dsimp only at hS'); go_simp; (try rw [if_pos (by omega)]); try with_reducible rfl
          try simp only [Act.put, List.getElem_toArray, List.getElem_cons_zero, List.getElem_cons_succ, List.setIfInBounds_toArray, List.set_cons_zero, List.set_cons_succ]
          refine wpAnyH_ready (rs := [3]) (by kernel_rfl) (by simp) ?_
          refine AllReadyH.cons rfl (fun K' hK => ?_) AllReadyH.nil
          refine if_yes (by rfl) ?_
          try simp only [Act.put, List.getElem_toArray, List.getElem_cons_zero, List.getElem_cons_succ, List.setIfInBounds_toArray, List.set_cons_zero, List.set_cons_succ]
          go_simp
          refine (spec_pick B g _ 4 _ J.out.rd (by omega)).mono ?_
          rintro e w8 ⟨x8, rfl, hx8, hy8, hr, hgw, -⟩
          have J := Lib.hid (J.out.pick hgw hr (by omega) (by omega) (by omega))
          have B0 := B0.near hgw (by omega)
          have q8 := hgw.size
          clear hr hgw
          have hwy : IntKind.i64.wrap (h.tm + x8) = h.tm + x8 := IntWalk.i64_in _ (by omega)
          go_wp2_with fail
          refine hK.out _ _ ?_ (fun hHeld => ?_)
          · exact B0.cell0 rfl
          clear hK K'
          try simp only [Act.put, List.getElem_toArray, List.getElem_cons_zero, List.getElem_cons_succ, List.setIfInBounds_toArray, List.set_cons_zero, List.set_cons_succ]
          refine wpAnyH_take (i := 4) (v := ?_) rfl (by kernel_rfl) (by kernel_rfl) (by kernel_rfl) (fun _ _ _ h => h) (Or.inl ⟨by rfl, fun w' hS' => ?_⟩) (by assumption) ?_
          rotate_left
          · (try dsimp only at hS'); go_simp; (try rw [if_pos (by omega)]); try with_reducible rfl
          try simp only [Act.put, List.getElem_toArray, List.getElem_cons_zero, List.getElem_cons_succ, List.setIfInBounds_toArray, List.set_cons_zero, List.set_cons_succ]
          refine wpAnyH_take (i := 5) (v := ?_) rfl (by kernel_rfl) (by kernel_rfl) (by kernel_rfl) (fun _ _ _ h => h) (Or.inl ⟨by rfl, fun w' hS' => ?_⟩) (by assumption) ?_
          rotate_left
          · (try dsimp only at hS'); go_simp; (try rw [if_pos (by omega)]); try with_reducible rfl
          try simp only [Act.put, List.getElem_toArray, List.getElem_cons_zero, List.getElem_cons_succ, List.setIfInBounds_toArray, List.set_cons_zero, List.set_cons_succ]
          obtain ⟨rc3, rz3⟩ := (B0).rules; have rl3 := (B0).lt
          refine wpAnyH_done (by kernel_rfl) ?_ _
          refine tail_step rfl (fun K' hK => ?_)
          refine if_yes (by rfl) ?_
          try simp only [Act.put, List.getElem_toArray, List.getElem_cons_zero, List.getElem_cons_succ, List.setIfInBounds_toArray, List.set_cons_zero, List.set_cons_succ]
          go_simp
          refine hK _ _ ?_
          clear hK K'
          try simp only [Act.put, List.getElem_toArray, List.getElem_cons_zero, List.getElem_cons_succ, List.setIfInBounds_toArray, List.set_cons_zero, List.set_cons_succ]
          go_wp2_with fail
          go_meet
          exact ⟨h.pt, h.tm + x8, (J.out.away B0 (by omega) (by omega) (by omega) (by omega) Jlt.out 1 _).mono (by omega), B0.set 1 _, by omega, by omega, by simp; omega⟩
        · have hxb : (x7 == 0) = false := by simp [hx]
          have Hx := Lib.hid hx
          clear hx
          go_wp2_with fail
          go_meet
          exact ⟨h.pt, h.tm, J.out.mono (by omega), B0, hnb.1, by omega, by omega⟩
      rename World => w8
      obtain ⟨x, y, hJ, B0, hy1, hy2, hgh3⟩ := hcut
      have J := Lib.hid hJ
      clear hJ hnb q5 q7 hs6 hgh2 hx7 hy7
      go_wp2_with fail
      refine (spec_odd B g _ 14 _ J.out.rd (by omega) (by omega)).mono ?_
      rintro e w9 ⟨b9, rfl, hr, hgw, -⟩
      have J := Lib.hid (J.out.pick hgw hr (by omega) (by omega) (by omega))
      have B0 := B0.near hgw (by omega)
      have q9 := hgw.size
      clear hr hgw
      go_upto_if 36 with fail
      go_cut [8] (fun v8 wx => ∃ (x : Int), HS w g (m + 380 - 20 * k + 4) B w1.heap.size W.heap.size p (.slice av nb cv) o (.slice ao M co) wx ∧ Box wx gh 30 #[.int .i64 x, .int .i64 y] ∧ gh < wx.heap.size)
      case first =>
        cases b9
        · go_wp2_with fail
          go_meet
          exact ⟨x, J.out.mono (by omega), B0, by omega⟩
        · obtain ⟨rc0, rz0⟩ := (J.out.bx).rules; have rl0 := (J.out.bx).lt
          go_upto_region 11 with fail
          by_cases hp1 : p.pts < 1
          · go_wp2_with fail
            refine (spec_pick B g _ _ _ J.out.rd (by omega)).mono ?_
            rintro e w10 ⟨x10, rfl, hx10, hy10, hr, hgw, -⟩
            have J := Lib.hid (J.out.pick hgw hr (by omega) (by omega) (by omega))
            have B0 := B0.near hgw (by omega)
            have q10 := hgw.size
            clear hr hgw rc0 rz0 rl0
            obtain ⟨rc3, rz3⟩ := (B0).rules; have rl3 := (B0).lt
            go_wp2_with fail
            go_meet
            exact ⟨x10, (J.out.away B0 (by omega) (by omega) (by omega) (by omega) Jlt.out 0 _).mono (by omega), B0.set 0 _, by simp; omega⟩
          · go_wp2_with fail
            refine (spec_pick B g _ _ _ J.out.rd (by omega)).mono ?_
            rintro e w10 ⟨x10, rfl, hx10, hy10, hr, hgw, -⟩
            have J := Lib.hid (J.out.pick hgw hr (by omega) (by omega) (by omega))
            have B0 := B0.near hgw (by omega)
            have q10 := hgw.size
            clear hr hgw rc0 rz0 rl0
            obtain ⟨rc3, rz3⟩ := (B0).rules; have rl3 := (B0).lt
            go_wp2_with fail
            go_meet
            exact ⟨x10, (J.out.away B0 (by omega) (by omega) (by omega) (by omega) Jlt.out 0 _).mono (by omega), B0.set 0 _, by simp; omega⟩
      rename World => w11
      obtain ⟨x, hJ, B0, hgh4⟩ := hcut
      have J := Lib.hid hJ
      clear hJ q9 hgh3
      obtain ⟨rc3, rz3⟩ := (B0).rules; have rl3 := (B0).lt
      have hM2 : Hid ((o ++ [(⟨x, y⟩ : Hp)]).length = M + 1) := by rw [List.length_append, HM.out]; exact Lib.hid rfl
      have hkk : IntKind.i64.wrap ((k : Int) - 1) = ((k - 1 : Nat) : Int) := by rw [IntWalk.i64_in _ (by omega)]; omega
      have hkk2 : (k : Int) - 1 = ((k - 1 : Nat) : Int) := by omega
      go_wp2_with (at_builtin; refine wpl_appHp _ rfl (.tmp 43) (.tmp 45) rfl W.heap.size 0 (.slice ao M co) o rfl (J.out.hp.alloc _) (.slice (some ⟨w11.heap.size, 0, none⟩) 1 1) [⟨x, y⟩] rfl ((Hps.lit w11 ⟨x, y⟩).base (Nat.zero_le _)) (by rw [HM.out]; simp; omega) (by simp; omega) ?_; intro v12 w12 hv12 hg12; obtain ⟨a12, c12, hav12, -⟩ := hv12.open; rw [hM2.out] at hav12; subst hav12)
      have J := Lib.hid ((J.out.ext (ext_alloc (ext_refl _) _)).app hv12 hg12 (by omega) (by omega) (by omega) ⟨by dsimp only; omega, by dsimp only; omega⟩)
      have q12 := hg12.size
      simp only [World.size_alloc] at q12
      go_roundg (k - 1 + 1)
      case rel => exact ⟨k - 1, M + 1, _, a12, c12, by omega, rfl, by first | rfl | rw [hkk2], rfl, hM2, by omega, Lib.hid (J.out.mono (by omega)), by omega⟩
      case measure => have := Hk.out; omega
    · have hk0i : ¬ (0 : Int) < (k : Int) := by omega
      go_wp2_with fail
      have J := Lib.hid (J.out.mono (show _ ≤ m + 380 by omega))
      have hM6 : M ≤ 5 := by omega
      obtain ⟨ws, rfl⟩ : ∃ x, x = wr := ⟨_, rfl⟩
      refine (spec_odd B g _ 12 _ J.out.rd (by omega) (by omega)).mono ?_
      rintro e u1 ⟨b1, rfl, hr, hgw, -⟩
      have J := Lib.hid (J.out.pick hgw hr (by omega) (by omega) (by omega))
      have v1 := hgw.size
      clear hr hgw
      cases b1
      · obtain ⟨rc1, rz1⟩ := (J.out.bx).rules; have rl1 := (J.out.bx).lt
        obtain ⟨rc2, rz2⟩ := (J.out.r0).rules; have rl2 := (J.out.r0).lt
        go_wp2_with fail
        refine bodyPost_ret (v := .tuple #[.agg #[.int .i64 p.pts, .slice av nb cv], .slice ao M co]) (by simp [results, Try.results40, go_sem, *]) rfl ?_
        exact ret.out _ _ _ (J.out.mono (by omega)) (by rw [HM.out]; omega)
      · go_wp2_with fail
        refine (spec_pick B g _ 7 _ J.out.rd (by omega)).mono ?_
        rintro e u2 ⟨y2, rfl, hy20, hy2, hr, hgw, -⟩
        have J := Lib.hid (J.out.pick hgw hr (by omega) (by omega) (by omega))
        have v2 := hgw.size
        clear hr hgw
        go_wp2_with fail
        refine (spec_pick B g _ 30 _ J.out.rd (by omega)).mono ?_
        rintro e u3 ⟨y3, rfl, hy30, hy3, hr, hgw, -⟩
        have J := Lib.hid (J.out.pick hgw hr (by omega) (by omega) (by omega))
        have v3 := hgw.size
        clear hr hgw
        go_wp2_with fail
        refine (spec_pick B g _ 9 _ J.out.rd (by omega)).mono ?_
        rintro e u4 ⟨y4, rfl, hy40, hy4, hr, hgw, -⟩
        have J := Lib.hid (J.out.pick hgw hr (by omega) (by omega) (by omega))
        have v4 := hgw.size
        clear hr hgw
        obtain ⟨y5, hy5⟩ : ∃ y, y4 / 8 = y := ⟨_, rfl⟩
        have hy5' : y4.tdiv 8 = y5 := by rw [Int.tdiv_eq_ediv_of_nonneg (by omega)]; exact hy5
        have hy5r : 0 ≤ y5 ∧ y5 ≤ 1 := by omega
        have hM2 : Hid ((o ++ [(⟨y2, y3 - y5⟩ : Hp)]).length = M + 1) := by rw [List.length_append, HM.out]; exact Lib.hid rfl
        have hwz : IntKind.i64.wrap (y3 - y5) = y3 - y5 := IntWalk.i64_in _ (by omega)
        go_upto_region 15 with (at_builtin; refine wpl_appHp _ rfl (.tmp 49) (.tmp 59) rfl W.heap.size 0 (.slice ao M co) o rfl (J.out.hp.alloc _) (.slice (some ⟨u4.heap.size, 0, none⟩) 1 1) [⟨y2, y3 - y5⟩] rfl ((Hps.lit u4 ⟨y2, y3 - y5⟩).base (Nat.zero_le _)) (by rw [HM.out]; simp; omega) (by simp; omega) ?_; intro v12 w12 hv12 hg12; obtain ⟨a12, c12, hav12, -⟩ := hv12.open; rw [hM2.out] at hav12; subst hav12)
        have J := Lib.hid ((J.out.ext (ext_alloc (ext_refl _) _)).app hv12 hg12 (by omega) (by omega) (by omega) ⟨by dsimp only; omega, by dsimp only; omega⟩)
        clear hv12 hg12
        obtain ⟨rc1, rz1⟩ := (J.out.bx).rules; have rl1 := (J.out.bx).lt
        obtain ⟨rc2, rz2⟩ := (J.out.r0).rules; have rl2 := (J.out.r0).lt
        go_wp2_with fail
        refine bodyPost_ret (v := .tuple #[.agg #[.int .i64 p.pts, .slice av nb cv], .slice a12 (M + 1) c12]) (by simp [results, Try.results40, go_sem, *]) rfl ?_
        exact ret.out _ _ _ (J.out.mono (by omega)) (by rw [hM2.out]; omega)
def RetHeardD (w : World) : Ending → World → Prop := fun e w' => ∃ (v1 v2 : Value) (p : Pl) (l : List Hp), e = .returned (.tuple #[.agg #[.int .i64 p.pts, v1], v2]) ∧ Bds w' w.heap.size v1 p.bs ∧ Hps w' w.heap.size v2 l ∧ p.bs.length ≤ 16 ∧ l.length ≤ 6 ∧ 0 ≤ p.pts ∧ p.pts ≤ 7 ∧
  (∀ j, j < l.length → -1 ≤ (hA l j).tm ∧ (hA l j).tm ≤ 2003) ∧ Below w.heap.size w w'
set_option maxHeartbeats 2000000 in
theorem spec_DrawFirstBad (a : Option Addr) (n cap : Nat) (w : World) (h : Byt w w.heap.size a n cap) : Calls Try.prog 33 #[.slice a n cap] w (RetHeardD w) := by
  have H := Lib.hid h
  clear h
  go_enter Try.func33, Try.ntmps33
  go_wp2_with fail
  obtain ⟨W, hW, B0, hs, E⟩ := one_box w #[.int .i64 0, .slice none 0 0] 25
  rw [← hW.out]
  refine (spec_l20Open a n cap W w.heap.size (by omega) (H.out.below E)).mono ?_
  rintro e w1 ⟨rfl, R, hb1⟩
  have E1 := ext_trans E hb1
  have B1 := B0.ext hb1
  have R := Lib.hid R
  go_wp2_with fail
  refine (spec_l20Heard w.heap.size W.heap.size 0 w1 R.out (by omega)).mono ?_
  rintro e w2 ⟨v1, v2, p, l, rfl, hbs, hps, hl6, hl3, h0, h7, htm, -, hg⟩
  have E2 := ext_grown E1 hg (fun k hk => by cases hk; omega)
  have B2 := B1.grown hg (fun e => by injection e with e; omega)
  have hz1 := hb1.size
  obtain ⟨av, cv, rfl, -⟩ := hbs.open
  obtain ⟨ap, cp, rfl, -⟩ := hps.open
  have Hbs := Lib.hid hbs
  have Hps := Lib.hid hps
  clear hbs hps hb1 hg B0 B1 E1
  obtain ⟨rc2, rz2⟩ := (B2).rules; have rl2 := (B2).lt
  go_wp2_with fail
  refine bodyPost_ret (v := .tuple #[.agg #[.int .i64 p.pts, .slice av p.bs.length cv], .slice ap l.length cp]) (by simp [results, Try.results33, go_sem, *]) rfl ?_
  exact ⟨_, _, p, l, rfl, ((Hbs.out.low (by dsimp only; omega) _).low (by dsimp only; omega) _).base (by omega), ((Hps.out.low (by dsimp only; omega) _).low (by dsimp only; omega) _).base (by omega), hl6, hl3, h0, h7, htm, ext_set (ext_set E2 (Nat.le_refl _) _) (Nat.le_refl _) _⟩
set_option maxHeartbeats 2000000 in
theorem spec_DrawWaitUntil (a : Option Addr) (n cap : Nat) (w : World) (h : Byt w w.heap.size a n cap) : Calls Try.prog 37 #[.slice a n cap] w (RetHeardD w) := by
  have H := Lib.hid h
  clear h
  go_enter Try.func37, Try.ntmps37
  go_wp2_with fail
  obtain ⟨W, hW, B0, hs, E⟩ := one_box w #[.int .i64 0, .slice none 0 0] 25
  rw [← hW.out]
  refine (spec_l20Open a n cap W w.heap.size (by omega) (H.out.below E)).mono ?_
  rintro e w1 ⟨rfl, R, hb1⟩
  have E1 := ext_trans E hb1
  have B1 := B0.ext hb1
  have R := Lib.hid R
  go_wp2_with fail
  refine (spec_l20Heard w.heap.size W.heap.size 0 w1 R.out (by omega)).mono ?_
  rintro e w2 ⟨v1, v2, p, l, rfl, hbs, hps, hl6, hl3, h0, h7, htm, -, hg⟩
  have E2 := ext_grown E1 hg (fun k hk => by cases hk; omega)
  have B2 := B1.grown hg (fun e => by injection e with e; omega)
  have hz1 := hb1.size
  obtain ⟨av, cv, rfl, -⟩ := hbs.open
  obtain ⟨ap, cp, rfl, -⟩ := hps.open
  have Hbs := Lib.hid hbs
  have Hps := Lib.hid hps
  clear hbs hps hb1 hg B0 B1 E1
  obtain ⟨rc2, rz2⟩ := (B2).rules; have rl2 := (B2).lt
  go_wp2_with fail
  refine bodyPost_ret (v := .tuple #[.agg #[.int .i64 p.pts, .slice av p.bs.length cv], .slice ap l.length cp]) (by simp [results, Try.results37, go_sem, *]) rfl ?_
  exact ⟨_, _, p, l, rfl, ((Hbs.out.low (by dsimp only; omega) _).low (by dsimp only; omega) _).base (by omega), ((Hps.out.low (by dsimp only; omega) _).low (by dsimp only; omega) _).base (by omega), hl6, hl3, h0, h7, htm, ext_set (ext_set E2 (Nat.le_refl _) _) (Nat.le_refl _) _⟩
set_option maxHeartbeats 2000000 in
theorem spec_DrawNextOf (a : Option Addr) (n cap : Nat) (w : World) (h : Byt w w.heap.size a n cap) : Calls Try.prog 10 #[.slice a n cap] w (RetHeardD w) := by
  have H := Lib.hid h
  clear h
  go_enter Try.func10, Try.ntmps10
  go_wp2_with fail
  obtain ⟨W, hW, B0, hs, E⟩ := one_box w #[.int .i64 0, .slice none 0 0] 25
  rw [← hW.out]
  refine (spec_l20Open a n cap W w.heap.size (by omega) (H.out.below E)).mono ?_
  rintro e w1 ⟨rfl, R, hb1⟩
  have E1 := ext_trans E hb1
  have B1 := B0.ext hb1
  have R := Lib.hid R
  go_wp2_with fail
  refine (spec_l20Heard w.heap.size W.heap.size 0 w1 R.out (by omega)).mono ?_
  rintro e w2 ⟨v1, v2, p, l, rfl, hbs, hps, hl6, hl3, h0, h7, htm, -, hg⟩
  have E2 := ext_grown E1 hg (fun k hk => by cases hk; omega)
  have B2 := B1.grown hg (fun e => by injection e with e; omega)
  have hz1 := hb1.size
  obtain ⟨av, cv, rfl, -⟩ := hbs.open
  obtain ⟨ap, cp, rfl, -⟩ := hps.open
  have Hbs := Lib.hid hbs
  have Hps := Lib.hid hps
  clear hbs hps hb1 hg B0 B1 E1
  obtain ⟨rc2, rz2⟩ := (B2).rules; have rl2 := (B2).lt
  go_wp2_with fail
  refine bodyPost_ret (v := .tuple #[.agg #[.int .i64 p.pts, .slice av p.bs.length cv], .slice ap l.length cp]) (by simp [results, Try.results10, go_sem, *]) rfl ?_
  exact ⟨_, _, p, l, rfl, ((Hbs.out.low (by dsimp only; omega) _).low (by dsimp only; omega) _).base (by omega), ((Hps.out.low (by dsimp only; omega) _).low (by dsimp only; omega) _).base (by omega), hl6, hl3, h0, h7, htm, ext_set (ext_set E2 (Nat.le_refl _) _) (Nat.le_refl _) _⟩
set_option maxHeartbeats 2000000 in
theorem spec_DrawEndedBy (a : Option Addr) (n cap : Nat) (w : World) (h : Byt w w.heap.size a n cap) : Calls Try.prog 17 #[.slice a n cap] w (RetHeardD w) := by
  have H := Lib.hid h
  clear h
  go_enter Try.func17, Try.ntmps17
  go_wp2_with fail
  obtain ⟨W, hW, B0, hs, E⟩ := one_box w #[.int .i64 0, .slice none 0 0] 25
  rw [← hW.out]
  refine (spec_l20Open a n cap W w.heap.size (by omega) (H.out.below E)).mono ?_
  rintro e w1 ⟨rfl, R, hb1⟩
  have E1 := ext_trans E hb1
  have B1 := B0.ext hb1
  have R := Lib.hid R
  go_wp2_with fail
  refine (spec_l20Heard w.heap.size W.heap.size 0 w1 R.out (by omega)).mono ?_
  rintro e w2 ⟨v1, v2, p, l, rfl, hbs, hps, hl6, hl3, h0, h7, htm, -, hg⟩
  have E2 := ext_grown E1 hg (fun k hk => by cases hk; omega)
  have B2 := B1.grown hg (fun e => by injection e with e; omega)
  have hz1 := hb1.size
  obtain ⟨av, cv, rfl, -⟩ := hbs.open
  obtain ⟨ap, cp, rfl, -⟩ := hps.open
  have Hbs := Lib.hid hbs
  have Hps := Lib.hid hps
  clear hbs hps hb1 hg B0 B1 E1
  obtain ⟨rc2, rz2⟩ := (B2).rules; have rl2 := (B2).lt
  go_wp2_with fail
  refine bodyPost_ret (v := .tuple #[.agg #[.int .i64 p.pts, .slice av p.bs.length cv], .slice ap l.length cp]) (by simp [results, Try.results17, go_sem, *]) rfl ?_
  exact ⟨_, _, p, l, rfl, ((Hbs.out.low (by dsimp only; omega) _).low (by dsimp only; omega) _).base (by omega), ((Hps.out.low (by dsimp only; omega) _).low (by dsimp only; omega) _).base (by omega), hl6, hl3, h0, h7, htm, ext_set (ext_set E2 (Nat.le_refl _) _) (Nat.le_refl _) _⟩
end Go.Proofs.Ytffcfambgcaikaa
