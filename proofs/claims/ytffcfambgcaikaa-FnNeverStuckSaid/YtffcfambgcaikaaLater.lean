/- The draw l20Later (a plan, happenings and a time) and DrawVerdictOf of spec. No condition but that the bytes can be read. -/
import Derived.Test.YtffcfambgcaikaaHeardD
namespace Go.Proofs.Ytffcfambgcaikaa
open Go.RowKit
set_option linter.unusedVariables false
set_option linter.unusedSimpArgs false
def RetLater (w : World) (B g m : Nat) : Ending → World → Prop := fun e w' => ∃ (v1 v2 : Value) (p : Pl) (l : List Hp) (now : Int), e = .returned (.tuple #[.agg #[.int .i64 p.pts, v1], v2, .int .i64 now]) ∧ Bds w' w.heap.size v1 p.bs ∧ Hps w' w.heap.size v2 l ∧ p.bs.length ≤ 16 ∧ l.length ≤ 6 ∧ 0 ≤ p.pts ∧ p.pts ≤ 7 ∧
  (∀ j, j < l.length → -1 ≤ (hA l j).tm ∧ (hA l j).tm ≤ 2003) ∧ (-10 ≤ now ∧ now ≤ 2100) ∧ Rd w' B g m ∧ w.grownBy w' (some g)
def RetLaterD (w : World) : Ending → World → Prop := fun e w' => ∃ (v1 v2 : Value) (p : Pl) (l : List Hp) (now : Int), e = .returned (.tuple #[.agg #[.int .i64 p.pts, v1], v2, .int .i64 now]) ∧ Bds w' w.heap.size v1 p.bs ∧ Hps w' w.heap.size v2 l ∧ p.bs.length ≤ 16 ∧ l.length ≤ 6 ∧ 0 ≤ p.pts ∧ p.pts ≤ 7 ∧
  (∀ j, j < l.length → -1 ≤ (hA l j).tm ∧ (hA l j).tm ≤ 2003) ∧ (-10 ≤ now ∧ now ≤ 2100) ∧ Below w.heap.size w w'
set_option maxRecDepth 100000 in
set_option maxHeartbeats 8000000 in
theorem spec_l20Later (B g m : Nat) (w : World) (h : Rd w B g m) (hm : m ≤ 70000) :
    Calls Try.prog 66 #[.pointer (some ⟨g, 0, none⟩)] w (RetLater w B g (m + 500)) := by
  have R := Lib.hid h
  have hgl := h.lt
  clear h
  go_enter Try.func66, Try.ntmps66
  go_wp2_with fail
  obtain ⟨W, hW, R0, hs, E⟩ := one_box w #[.int .i64 0, .slice none 0 0] 25
  rw [← hW.out]
  have G := Lib.hid (grown_of_ext (some g) E)
  have R := Lib.hid (R.out.ext E)
  clear E
  refine (spec_l20Heard B g m W R.out (by omega)).mono ?_
  rintro e w1 ⟨v1, v2, p, l, rfl, hbs, hps, hl16, hl6, h0, h7, htm, hr, hgw⟩
  have Htm := Lib.hid htm
  have R := Lib.hid hr
  have G := Lib.hid (grown_trans' G.out hgw)
  have R0 := R0.near hgw (by omega)
  have q1 := hgw.size
  obtain ⟨av, cv, rfl, -⟩ := hbs.open
  obtain ⟨al, cl, rfl, -⟩ := hps.open
  have V := Lib.hid hbs
  have U := Lib.hid hps
  clear hbs hps hr hgw htm
  obtain ⟨N, hN⟩ : ∃ N, Hid (N = l.length) := ⟨_, rfl⟩
  rw [← hN.out] at hl6 U ⊢
  go_upto_region 2 with fail
  obtain ⟨w2, hw2, P0, hs2, E2⟩ := one_box w1 #[.int .i64 p.pts, .slice av p.bs.length cv] 25
  rw [← hw2.out]
  have R := Lib.hid (R.out.ext E2)
  have V := Lib.hid (V.out.ext E2)
  have U := Lib.hid (U.out.ext E2)
  have R0 := R0.ext E2
  have G := Lib.hid (grown_ext' G.out E2)
  clear E2
  obtain ⟨t, ht⟩ : ∃ t, Hid (t = lastT l) := ⟨_, rfl⟩
  have Hlt : Hid (t = if N = 0 then 0 else (hA l (N - 1)).tm) := by rw [ht.out, hN.out]; exact Lib.hid rfl
  have htr : -1 ≤ t ∧ t ≤ 2003 := by
    rw [Hlt.out]
    split
    · omega
    · exact Htm.out _ (by have := hN.out; omega)
  go_upto_if 15 with fail
  go_cut [7] (fun v5 wx => v5 = .int .i64 t ∧ wx = w2)
  case first =>
    by_cases hN0 : 0 < N
    · have hN0i : (0 : Int) < (N : Int) := by omega
      obtain ⟨gq, ha, hgq, -, cy⟩ := U.out.atA (j := N - 1) (by rw [← hN.out]; omega)
      subst ha
      rw [show (hA l (N - 1)).tm = t by rw [Hlt.out, if_neg (by omega)]] at cy
      have hk1 : (N : Int) - 1 = ((N - 1 : Nat) : Int) := by omega
      have hk1N : N - 1 < N := by omega
      have hk1i : 0 ≤ (N : Int) - 1 := by omega
      have hk1M : (N : Int) - 1 < (N : Int) := by omega
      have hk1n : ((N : Int) - 1).toNat = N - 1 := by omega
      go_wp2_with fail
      go_meet
      exact ⟨rfl, rfl⟩
    · have hN0i : ¬ (0 : Int) < (N : Int) := by omega
      have hy0 : t = 0 := by rw [Hlt.out, if_pos (by omega)]
      go_wp2_with fail
      go_meet
      exact ⟨by rw [hy0], rfl⟩
  rename World => wt
  obtain ⟨rfl, rfl⟩ := hcut
  go_upto_region 5 with fail
  refine wp_region_held_drew (S := fun w' => w'.cell? ⟨w1.heap.size, 0, none⟩ = some (Value.int .i64 p.pts) ∧ w'.cell? ⟨w1.heap.size, 1, none⟩ = some (Value.slice av p.bs.length cv)) (by kernel_rfl) ?_ (fun hHeld => ?_)
  · exact ⟨P0.cell0 rfl, P0.cell0 rfl⟩
  have G := Lib.hid (grown_drew' G.out)
  have R := Lib.hid R.out.drew
  have V := Lib.hid V.out.drew
  have U := Lib.hid U.out.drew
  have P0 := P0.drew
  have R0 := R0.drew
  obtain ⟨D, hD⟩ : ∃ D, Hid (D = wt.drew) := ⟨_, rfl⟩
  rw [← hD.out] at G R V U P0 R0 hHeld ⊢
  try simp only [Act.put, List.setIfInBounds_toArray, List.set_cons_zero, List.set_cons_succ]
  refine wpAnyH_take (i := 0) (v := ?_) rfl (by kernel_rfl) (by kernel_rfl) (by kernel_rfl) (fun _ _ _ h => h) (Or.inl ⟨by rfl, fun w' hS' => ?_⟩) (by assumption) ?_
  rotate_left
  · (try dsimp only at hS'); go_simp; (try rw [if_pos (by omega)]); try with_reducible rfl
  try simp only [Act.put, List.getElem_toArray, List.getElem_cons_zero, List.getElem_cons_succ, List.setIfInBounds_toArray, List.set_cons_zero, List.set_cons_succ]
  refine wpAnyH_take (i := 1) (v := ?_) rfl (by kernel_rfl) (by kernel_rfl) (by kernel_rfl) (fun _ _ _ h => h) (Or.inl ⟨by rfl, fun w' hS' => ?_⟩) (by assumption) ?_
  rotate_left
  · (try dsimp only at hS'); go_simp; (try rw [if_pos (by omega)]); try with_reducible rfl
  try simp only [Act.put, List.getElem_toArray, List.getElem_cons_zero, List.getElem_cons_succ, List.setIfInBounds_toArray, List.set_cons_zero, List.set_cons_succ]
  refine wpAnyH_take (i := 2) (v := ?_) rfl (by kernel_rfl) (by kernel_rfl) (by kernel_rfl) (fun _ _ _ h => h) (Or.inl ⟨by rfl, fun w' hS' => ?_⟩) (by assumption) ?_
  rotate_left
  · (try dsimp only at hS'); go_simp; (try rw [if_pos (by omega)]); try with_reducible rfl
  try simp only [Act.put, List.getElem_toArray, List.getElem_cons_zero, List.getElem_cons_succ, List.setIfInBounds_toArray, List.set_cons_zero, List.set_cons_succ]
  refine wpAnyH_take (i := 3) (v := ?_) rfl (by kernel_rfl) (by kernel_rfl) (by kernel_rfl) (fun _ _ _ h => h) (Or.inl ⟨by rfl, fun w' hS' => ?_⟩) (by assumption) ?_
  rotate_left
  · (try dsimp only at hS'); go_simp; (try rw [if_pos (by omega)]); try with_reducible rfl
  try simp only [Act.put, List.getElem_toArray, List.getElem_cons_zero, List.getElem_cons_succ, List.setIfInBounds_toArray, List.set_cons_zero, List.set_cons_succ]
  refine wpAnyH_take (i := 5) (v := ?_) rfl (by kernel_rfl) (by kernel_rfl) (by kernel_rfl) (fun _ _ _ h => h) (Or.inl ⟨by rfl, fun w' hS' => ?_⟩) (by assumption) ?_
  rotate_left
  · (try dsimp only at hS'); go_simp; (try rw [if_pos (by omega)]); try with_reducible rfl
  try simp only [Act.put, List.getElem_toArray, List.getElem_cons_zero, List.getElem_cons_succ, List.setIfInBounds_toArray, List.set_cons_zero, List.set_cons_succ]
  refine wpAnyH_take (i := 9) (v := ?_) rfl (by kernel_rfl) (by kernel_rfl) (by kernel_rfl) (fun _ _ _ h => h) (Or.inl ⟨by rfl, fun w' hS' => ?_⟩) (by assumption) ?_
  rotate_left
  · (try dsimp only at hS'); go_simp; (try rw [if_pos (by omega)]); try with_reducible rfl
  try simp only [Act.put, List.getElem_toArray, List.getElem_cons_zero, List.getElem_cons_succ, List.setIfInBounds_toArray, List.set_cons_zero, List.set_cons_succ]
  refine wpAnyH_ready (rs := [4]) (by kernel_rfl) (by simp) ?_
  refine AllReadyH.cons rfl (fun K' hK => ?_) AllReadyH.nil
  refine if_yes (by rfl) ?_
  try simp only [Act.put, List.setIfInBounds_toArray, List.set_cons_zero, List.set_cons_succ]
  go_simp
  refine (spec_pick B g _ 6 _ R.out (by omega)).mono ?_
  rintro e u0x ⟨x, rfl, hx0, hx1, hr, hgw, -⟩
  have P0 := P0.near hgw (by omega)
  have R0 := R0.near hgw (by omega)
  have V := Lib.hid (V.out.near hgw (by omega))
  have U := Lib.hid (U.out.near hgw (by omega))
  have G := Lib.hid (grown_trans' G.out hgw)
  have R := Lib.hid hr
  clear hr hgw
  go_wp2_with fail
  refine hK.out _ _ ?_ (fun hHeld => ?_)
  · exact ⟨P0.cell0 rfl, P0.cell0 rfl⟩
  clear hK K'
  try simp only [Act.put, List.setIfInBounds_toArray, List.set_cons_zero, List.set_cons_succ]
  refine wpAnyH_ready (rs := [6]) (by kernel_rfl) (by simp) ?_
  refine AllReadyH.cons rfl (fun K' hK => ?_) AllReadyH.nil
  refine if_yes (by rfl) ?_
  try simp only [Act.put, List.setIfInBounds_toArray, List.set_cons_zero, List.set_cons_succ]
  go_simp
  refine (spec_pick B g _ 3 _ R.out (by omega)).mono ?_
  rintro e u1y ⟨y, rfl, hy0, hy1, hr, hgw, -⟩
  have P0 := P0.near hgw (by omega)
  have R0 := R0.near hgw (by omega)
  have V := Lib.hid (V.out.near hgw (by omega))
  have U := Lib.hid (U.out.near hgw (by omega))
  have G := Lib.hid (grown_trans' G.out hgw)
  have R := Lib.hid hr
  clear hr hgw
  go_wp2_with fail
  refine hK.out _ _ ?_ (fun hHeld => ?_)
  · exact ⟨P0.cell0 rfl, P0.cell0 rfl⟩
  clear hK K'
  try simp only [Act.put, List.setIfInBounds_toArray, List.set_cons_zero, List.set_cons_succ]
  obtain ⟨xy, hxy⟩ : ∃ k, x * y = k := ⟨_, rfl⟩
  have hxyr : 0 ≤ xy ∧ xy ≤ 10 := by
    rw [← hxy]
    have hx : x = 0 ∨ x = 1 ∨ x = 2 ∨ x = 3 ∨ x = 4 ∨ x = 5 := by omega
    rcases hx with h | h | h | h | h | h <;> rw [h] <;> omega
  have hw1 : IntKind.i64.wrap xy = xy := IntWalk.i64_in _ (by omega)
  have hw2 : IntKind.i64.wrap (t + xy) = t + xy := IntWalk.i64_in _ (by omega)
  refine wpAnyH_take (i := 7) (v := ?_) rfl (by kernel_rfl) (by kernel_rfl) (by kernel_rfl) (fun _ _ _ h => h) (Or.inl ⟨by rfl, fun w' hS' => ?_⟩) (by assumption) ?_
  rotate_left
  · (try dsimp only at hS'); go_simp; (try rw [if_pos (by omega)]); try with_reducible rfl
  try simp only [Act.put, List.getElem_toArray, List.getElem_cons_zero, List.getElem_cons_succ, List.setIfInBounds_toArray, List.set_cons_zero, List.set_cons_succ]
  refine wpAnyH_take (i := 8) (v := ?_) rfl (by kernel_rfl) (by kernel_rfl) (by kernel_rfl) (fun _ _ _ h => h) (Or.inl ⟨by rfl, fun w' hS' => ?_⟩) (by assumption) ?_
  rotate_left
  · (try dsimp only at hS'); go_simp; (try rw [if_pos (by omega)]); try with_reducible rfl
  try simp only [Act.put, List.getElem_toArray, List.getElem_cons_zero, List.getElem_cons_succ, List.setIfInBounds_toArray, List.set_cons_zero, List.set_cons_succ]
  refine wpAnyH_ready (rs := [10]) (by kernel_rfl) (by simp) ?_
  refine AllReadyH.cons rfl (fun K' hK => ?_) AllReadyH.nil
  refine if_yes (by rfl) ?_
  try simp only [Act.put, List.setIfInBounds_toArray, List.set_cons_zero, List.set_cons_succ]
  go_simp
  refine (spec_pick B g _ 30 _ R.out (by omega)).mono ?_
  rintro e u2z ⟨z, rfl, hz0, hz1, hr, hgw, -⟩
  have P0 := P0.near hgw (by omega)
  have R0 := R0.near hgw (by omega)
  have V := Lib.hid (V.out.near hgw (by omega))
  have U := Lib.hid (U.out.near hgw (by omega))
  have G := Lib.hid (grown_trans' G.out hgw)
  have R := Lib.hid hr
  clear hr hgw
  go_wp2_with fail
  refine hK.out _ _ ?_ (fun hHeld => ?_)
  · exact ⟨P0.cell0 rfl, P0.cell0 rfl⟩
  clear hK K'
  try simp only [Act.put, List.setIfInBounds_toArray, List.set_cons_zero, List.set_cons_succ]
  obtain ⟨zq, hzq⟩ : ∃ k, z / 29 = k := ⟨_, rfl⟩
  have hzq' : z.tdiv 29 = zq := by rw [Int.tdiv_eq_ediv_of_nonneg (by omega)]; exact hzq
  have hzqr : 0 ≤ zq ∧ zq ≤ 1 := by omega
  have hw3 : IntKind.i64.wrap (t + xy - zq) = t + xy - zq := IntWalk.i64_in _ (by omega)
  have hw4 : IntKind.i64.wrap zq = zq := IntWalk.i64_in _ (by omega)
  refine wpAnyH_take (i := 11) (v := ?_) rfl (by kernel_rfl) (by kernel_rfl) (by kernel_rfl) (fun _ _ _ h => h) (Or.inl ⟨by rfl, fun w' hS' => ?_⟩) (by assumption) ?_
  rotate_left
  · (try dsimp only at hS'); go_simp; (try rw [if_pos (by omega)]); try with_reducible rfl
  try simp only [Act.put, List.getElem_toArray, List.getElem_cons_zero, List.getElem_cons_succ, List.setIfInBounds_toArray, List.set_cons_zero, List.set_cons_succ]
  refine wpAnyH_take (i := 12) (v := ?_) rfl (by kernel_rfl) (by kernel_rfl) (by kernel_rfl) (fun _ _ _ h => h) (Or.inl ⟨by rfl, fun w' hS' => ?_⟩) (by assumption) ?_
  rotate_left
  · (try dsimp only at hS'); go_simp; (try rw [if_pos (by omega)]); try with_reducible rfl
  try simp only [Act.put, List.getElem_toArray, List.getElem_cons_zero, List.getElem_cons_succ, List.setIfInBounds_toArray, List.set_cons_zero, List.set_cons_succ]
  obtain ⟨rc9, rz9⟩ := (R0).rules; have rl9 := (R0).lt
  refine wpAnyH_ready (rs := [13]) (by kernel_rfl) (by simp) ?_
  refine AllReadyH.cons rfl (fun K' hK => ?_) AllReadyH.nil
  refine if_yes (by rfl) ?_
  try simp only [Act.put, List.getElem_toArray, List.getElem_cons_zero, List.getElem_cons_succ, List.setIfInBounds_toArray, List.set_cons_zero, List.set_cons_succ]
  go_simp
  have R0 := (R0.set 0 (.int .i64 p.pts)).set 1 (.slice av p.bs.length cv)
  have P0 := (P0.far (p := ⟨w.heap.size, 0, none⟩) (by dsimp only; omega) (.int .i64 p.pts)).far (p := ⟨w.heap.size, 1, none⟩) (by dsimp only; omega) (.slice av p.bs.length cv)
  have V := Lib.hid ((V.out.low (p := ⟨w.heap.size, 0, none⟩) (by dsimp only; omega) (.int .i64 p.pts)).low (p := ⟨w.heap.size, 1, none⟩) (by dsimp only; omega) (.slice av p.bs.length cv))
  have U := Lib.hid ((U.out.low (p := ⟨w.heap.size, 0, none⟩) (by dsimp only; omega) (.int .i64 p.pts)).low (p := ⟨w.heap.size, 1, none⟩) (by dsimp only; omega) (.slice av p.bs.length cv))
  have R := Lib.hid ((R.out.set (p := ⟨w.heap.size, 0, none⟩) (by dsimp only; omega) (by dsimp only; omega) (.int .i64 p.pts)).set (p := ⟨w.heap.size, 1, none⟩) (by dsimp only; omega) (by dsimp only; omega) (.slice av p.bs.length cv))
  have G := Lib.hid (grown_set' (k := w.heap.size) (i := 1) (grown_set' (k := w.heap.size) (i := 0) G.out (Nat.le_refl _) (.int .i64 p.pts)) (Nat.le_refl _) (.slice av p.bs.length cv))
  refine hK.out _ _ ?_ (fun hHeld => ?_)
  · exact ⟨P0.cell0 rfl, P0.cell0 rfl⟩
  clear hK K' rc9 rz9 rl9
  try simp only [Act.put, List.setIfInBounds_toArray, List.set_cons_zero, List.set_cons_succ]
  refine wpAnyH_take (i := 14) (v := ?_) rfl (by kernel_rfl) (by kernel_rfl) (by kernel_rfl) (fun _ _ _ h => h) (Or.inl ⟨by rfl, fun w' hS' => ?_⟩) (by assumption) ?_
  rotate_left
  · (try dsimp only at hS'); go_simp; (try rw [if_pos (by omega)]); try with_reducible rfl
  try simp only [Act.put, List.getElem_toArray, List.getElem_cons_zero, List.getElem_cons_succ, List.setIfInBounds_toArray, List.set_cons_zero, List.set_cons_succ]
  refine wpAnyH_take (i := 15) (v := ?_) rfl (by kernel_rfl) (by kernel_rfl) (by kernel_rfl) (fun _ _ _ h => h) (Or.inl ⟨by rfl, fun w' hS' => ?_⟩) (by assumption) ?_
  rotate_left
  · (try dsimp only at hS'); go_simp; (try rw [if_pos (by omega)]); try with_reducible rfl
  try simp only [Act.put, List.getElem_toArray, List.getElem_cons_zero, List.getElem_cons_succ, List.setIfInBounds_toArray, List.set_cons_zero, List.set_cons_succ]
  refine wpAnyH_done (by kernel_rfl) ?_ _
  try simp only [Act.put, List.setIfInBounds_toArray, List.set_cons_zero, List.set_cons_succ]
  obtain ⟨rc9, rz9⟩ := (R0).rules; have rl9 := (R0).lt
  go_wp2_with fail
  refine bodyPost_ret (v := .tuple #[.agg #[.int .i64 p.pts, .slice av p.bs.length cv], .slice al N cl, .int .i64 (t + xy - zq)]) (by simp [results, Try.results66, go_sem, *]) rfl ?_
  exact ⟨_, _, p, l, _, rfl, V.out.base (by omega), U.out.base (by omega), hl16, by rw [← hN.out]; exact hl6, h0, h7, Htm.out, ⟨by omega, by omega⟩, R.out.mono (by omega), G.out⟩
set_option maxHeartbeats 2000000 in
theorem spec_DrawVerdictOf (a : Option Addr) (n cap : Nat) (w : World) (h : Byt w w.heap.size a n cap) : Calls Try.prog 32 #[.slice a n cap] w (RetLaterD w) := by
  have H := Lib.hid h
  clear h
  go_enter Try.func32, Try.ntmps32
  go_wp2_with fail
  obtain ⟨W, hW, B0, hs, E⟩ := one_box w #[.int .i64 0, .slice none 0 0] 25
  rw [← hW.out]
  refine (spec_l20Open a n cap W w.heap.size (by omega) (H.out.below E)).mono ?_
  rintro e w1 ⟨rfl, R, hb1⟩
  have E1 := ext_trans E hb1
  have B1 := B0.ext hb1
  have R := Lib.hid R
  go_wp2_with fail
  refine (spec_l20Later w.heap.size W.heap.size 0 w1 R.out (by omega)).mono ?_
  rintro e w2 ⟨v1, v2, p, l, now, rfl, hbs, hps, hl6, hl3, h0, h7, htm, hnow, -, hg⟩
  have E2 := ext_grown E1 hg (fun k hk => by cases hk; omega)
  have B2 := B1.grown hg (fun e => by injection e with e; omega)
  have hz1 := hb1.size
  obtain ⟨av, cv, rfl, -⟩ := hbs.open
  obtain ⟨ap, cp, rfl, -⟩ := hps.open
  have Hbs := Lib.hid hbs
  have Hps := Lib.hid hps
  clear hbs hps hb1 hg B0 B1 E1
  obtain ⟨rc2, rz2⟩ := (B2).rules; have rl2 := (B2).lt
  go_wp2_with fail
  refine bodyPost_ret (v := .tuple #[.agg #[.int .i64 p.pts, .slice av p.bs.length cv], .slice ap l.length cp, .int .i64 now]) (by simp [results, Try.results32, go_sem, *]) rfl ?_
  exact ⟨_, _, p, l, now, rfl, ((Hbs.out.low (by dsimp only; omega) _).low (by dsimp only; omega) _).base (by omega), ((Hps.out.low (by dsimp only; omega) _).low (by dsimp only; omega) _).base (by omega), hl6, hl3, h0, h7, htm, hnow, ext_set (ext_set E2 (Nat.le_refl _) _) (Nat.le_refl _) _⟩
end Go.Proofs.Ytffcfambgcaikaa
