/- The draw of a plan and a bound: spec.DrawWithBound gives some plan of at most 10 bounds and some bound. No condition but that the code's bytes can be read. -/
import Derived.Test.YtcjdodjjdchnaaaDrawn
namespace Go.Proofs.Ytcjdodjjdchnaaa
open Go.RowKit
set_option linter.unusedVariables false
set_option linter.unusedSimpArgs false
set_option maxRecDepth 100000 in
set_option maxHeartbeats 4000000 in
theorem spec_DrawWithBound (a : Option Addr) (n cap : Nat) (w : World) (h : Byt w w.heap.size a n cap) : Calls Try.prog 28 #[.slice a n cap] w fun e w' =>
    ∃ (bs : Value) (p : Pl) (b : Bd), e = .returned (.tuple #[.agg #[.int .i64 p.pts, bs], .agg #[.int .i64 b.f, .int .i64 b.t, .int .i64 b.m]]) ∧ Bds w' w.heap.size bs p.bs ∧ p.bs.length ≤ 10 ∧ 0 ≤ p.pts ∧ p.pts ≤ 7 ∧ Below w.heap.size w w' := by
  have H := Lib.hid h
  clear h
  go_enter Try.func28, Try.ntmps28
  go_wp2_with fail
  obtain ⟨W, hW, R0, R1, hs, E⟩ := two_boxes w #[.int .i64 0, .slice none 0 0] #[.int .i64 0, .int .i64 0, .int .i64 0] 25 40
  rw [← hW.out]
  refine (spec_l20Open a n cap W w.heap.size (by omega) (H.out.below E)).mono ?_
  rintro e w1 ⟨rfl, hr, hb1⟩
  have E := ext_trans E hb1
  have R0 := R0.ext hb1; have R1 := R1.ext hb1
  have hz1 := hb1.size
  have R := Lib.hid hr
  clear hr hb1
  go_wp2_with fail
  refine (spec_l20Plan w.heap.size W.heap.size 0 12 w1 R.out (by omega) (by omega)).mono ?_
  rintro e w2 ⟨bs, p, rfl, hbs, hl, h0, h7, hr, hg⟩
  have E := ext_grown E hg (fun k hk => by cases hk; omega)
  have R0 := R0.grown hg (fun e => by injection e with e; omega)
  have R1 := R1.grown hg (fun e => by injection e with e; omega)
  have hz2 := hg.size
  have hlt := R.out.lt
  have R := Lib.hid hr
  obtain ⟨av, cv, rfl, -⟩ := hbs.open
  have V := Lib.hid hbs
  clear hbs hr hg
  go_upto_region 3 with fail
  obtain ⟨w3, hw3, P0, hs3, E3⟩ := one_box w2 #[.int .i64 p.pts, .slice av p.bs.length cv] 25
  rw [← hw3.out]
  have R := Lib.hid (R.out.ext E3)
  have V := Lib.hid (V.out.ext E3)
  have R0 := R0.ext E3; have R1 := R1.ext E3
  have E := ext_trans E E3
  clear E3
  refine wp_region_held_drew (S := fun w' => w'.cell? ⟨w2.heap.size, 0, none⟩ = some (Value.int .i64 p.pts) ∧ w'.cell? ⟨w2.heap.size, 1, none⟩ = some (Value.slice av p.bs.length cv)) (by kernel_rfl) ?_ (fun hHeld => ?_)
  · exact ⟨P0.cell0 rfl, P0.cell0 rfl⟩
  have R := Lib.hid R.out.drew
  have E := ext_drew E
  have V := Lib.hid V.out.drew
  have R0 := R0.drew
  have R1 := R1.drew
  have P0 := P0.drew
  obtain ⟨d, hd⟩ : ∃ d, Hid (d = w3.drew) := ⟨_, rfl⟩
  have qd : w3.heap.size ≤ d.heap.size := by rw [hd.out]; exact Nat.le_refl _
  rw [← hd.out] at R E V R0 R1 P0 hHeld ⊢
  try simp only [Act.put, List.setIfInBounds_toArray, List.set_cons_zero, List.set_cons_succ]
  refine wpAnyH_take (i := 0) (v := ?_) rfl (by kernel_rfl) (by kernel_rfl) (by kernel_rfl) (fun _ _ _ h => h) (Or.inl ⟨by rfl, fun w' hS' => ?_⟩) (by assumption) ?_
  rotate_left
  · (try dsimp only at hS'); go_simp; (try rw [if_pos (by omega)]); try with_reducible rfl
  try simp only [Act.put, List.getElem_toArray, List.getElem_cons_zero, List.getElem_cons_succ, List.setIfInBounds_toArray, List.set_cons_zero, List.set_cons_succ]
  refine wpAnyH_take (i := 1) (v := ?_) rfl (by kernel_rfl) (by kernel_rfl) (by kernel_rfl) (fun _ _ _ h => h) (Or.inl ⟨by rfl, fun w' hS' => ?_⟩) (by assumption) ?_
  rotate_left
  · (try dsimp only at hS'); go_simp; (try rw [if_pos (by omega)]); try with_reducible rfl
  try simp only [Act.put, List.getElem_toArray, List.getElem_cons_zero, List.getElem_cons_succ, List.setIfInBounds_toArray, List.set_cons_zero, List.set_cons_succ]
  refine wpAnyH_take (i := 2) (v := ?_) rfl (by kernel_rfl) (by kernel_rfl) (by kernel_rfl) (fun _ _ _ h => h) (Or.inl ⟨by rfl, fun w' hS' => ?_⟩) (by assumption) ?_
  rotate_left
  · (try dsimp only at hS'); go_simp; (try rw [if_pos (by omega)]); try with_reducible rfl
  try simp only [Act.put, List.getElem_toArray, List.getElem_cons_zero, List.getElem_cons_succ, List.setIfInBounds_toArray, List.set_cons_zero, List.set_cons_succ]
  refine wpAnyH_take (i := 3) (v := ?_) rfl (by kernel_rfl) (by kernel_rfl) (by kernel_rfl) (fun _ _ _ h => h) (Or.inl ⟨by rfl, fun w' hS' => ?_⟩) (by assumption) ?_
  rotate_left
  · (try dsimp only at hS'); go_simp; (try rw [if_pos (by omega)]); try with_reducible rfl
  try simp only [Act.put, List.getElem_toArray, List.getElem_cons_zero, List.getElem_cons_succ, List.setIfInBounds_toArray, List.set_cons_zero, List.set_cons_succ]
  refine wpAnyH_take (i := 4) (v := ?_) rfl (by kernel_rfl) (by kernel_rfl) (by kernel_rfl) (fun _ _ _ h => h) (Or.inl ⟨by rfl, fun w' hS' => ?_⟩) (by assumption) ?_
  rotate_left
  · (try dsimp only at hS'); go_simp; (try rw [if_pos (by omega)]); try with_reducible rfl
  try simp only [Act.put, List.getElem_toArray, List.getElem_cons_zero, List.getElem_cons_succ, List.setIfInBounds_toArray, List.set_cons_zero, List.set_cons_succ]
  refine wpAnyH_take (i := 6) (v := ?_) rfl (by kernel_rfl) (by kernel_rfl) (by kernel_rfl) (fun _ _ _ h => h) (Or.inl ⟨by rfl, fun w' hS' => ?_⟩) (by assumption) ?_
  rotate_left
  · (try dsimp only at hS'); go_simp; (try rw [if_pos (by omega)]); try with_reducible rfl
  try simp only [Act.put, List.getElem_toArray, List.getElem_cons_zero, List.getElem_cons_succ, List.setIfInBounds_toArray, List.set_cons_zero, List.set_cons_succ]
  refine wpAnyH_take (i := 10) (v := ?_) rfl (by kernel_rfl) (by kernel_rfl) (by kernel_rfl) (fun _ _ _ h => h) (Or.inl ⟨by rfl, fun w' hS' => ?_⟩) (by assumption) ?_
  rotate_left
  · (try dsimp only at hS'); go_simp; (try rw [if_pos (by omega)]); try with_reducible rfl
  try simp only [Act.put, List.getElem_toArray, List.getElem_cons_zero, List.getElem_cons_succ, List.setIfInBounds_toArray, List.set_cons_zero, List.set_cons_succ]
  refine wpAnyH_take (i := 11) (v := ?_) rfl (by kernel_rfl) (by kernel_rfl) (by kernel_rfl) (fun _ _ _ h => h) (Or.inl ⟨by rfl, fun w' hS' => ?_⟩) (by assumption) ?_
  rotate_left
  · (try dsimp only at hS'); go_simp; (try rw [if_pos (by omega)]); try with_reducible rfl
  try simp only [Act.put, List.getElem_toArray, List.getElem_cons_zero, List.getElem_cons_succ, List.setIfInBounds_toArray, List.set_cons_zero, List.set_cons_succ]
  refine wpAnyH_take (i := 12) (v := ?_) rfl (by kernel_rfl) (by kernel_rfl) (by kernel_rfl) (fun _ _ _ h => h) (Or.inl ⟨by rfl, fun w' hS' => ?_⟩) (by assumption) ?_
  rotate_left
  · (try dsimp only at hS'); go_simp; (try rw [if_pos (by omega)]); try with_reducible rfl
  try simp only [Act.put, List.getElem_toArray, List.getElem_cons_zero, List.getElem_cons_succ, List.setIfInBounds_toArray, List.set_cons_zero, List.set_cons_succ]
  refine wpAnyH_take (i := 13) (v := ?_) rfl (by kernel_rfl) (by kernel_rfl) (by kernel_rfl) (fun _ _ _ h => h) (Or.inl ⟨by rfl, fun w' hS' => ?_⟩) (by assumption) ?_
  rotate_left
  · (try dsimp only at hS'); go_simp; (try rw [if_pos (by omega)]); try with_reducible rfl
  try simp only [Act.put, List.getElem_toArray, List.getElem_cons_zero, List.getElem_cons_succ, List.setIfInBounds_toArray, List.set_cons_zero, List.set_cons_succ]
  refine wpAnyH_take (i := 15) (v := ?_) rfl (by kernel_rfl) (by kernel_rfl) (by kernel_rfl) (fun _ _ _ h => h) (Or.inl ⟨by rfl, fun w' hS' => ?_⟩) (by assumption) ?_
  rotate_left
  · (try dsimp only at hS'); go_simp; (try rw [if_pos (by omega)]); try with_reducible rfl
  try simp only [Act.put, List.getElem_toArray, List.getElem_cons_zero, List.getElem_cons_succ, List.setIfInBounds_toArray, List.set_cons_zero, List.set_cons_succ]
  refine wpAnyH_take (i := 18) (v := ?_) rfl (by kernel_rfl) (by kernel_rfl) (by kernel_rfl) (fun _ _ _ h => h) (Or.inl ⟨by rfl, fun w' hS' => ?_⟩) (by assumption) ?_
  rotate_left
  · (try dsimp only at hS'); go_simp; (try rw [if_pos (by omega)]); try with_reducible rfl
  try simp only [Act.put, List.getElem_toArray, List.getElem_cons_zero, List.getElem_cons_succ, List.setIfInBounds_toArray, List.set_cons_zero, List.set_cons_succ]
  generalize (if p.pts < 1 then (1 : Int) else p.pts) = M
  refine wpAnyH_ready (rs := [5]) (by kernel_rfl) (by simp) ?_
  refine AllReadyH.cons rfl (fun K' hK => ?_) AllReadyH.nil
  refine if_yes (by rfl) ?_
  try simp only [Act.put, List.getElem_toArray, List.getElem_cons_zero, List.getElem_cons_succ, List.setIfInBounds_toArray, List.set_cons_zero, List.set_cons_succ]
  go_simp
  refine (spec_pick w.heap.size W.heap.size _ M _ R.out (by omega)).mono ?_
  rintro e u1 ⟨y1, rfl, -, -, hr, hgw, -⟩
  have R := Lib.hid hr
  have V := Lib.hid (V.out.near hgw (by omega))
  have R0 := R0.grown hgw (fun e => by injection e with e; omega)
  have R1 := R1.grown hgw (fun e => by injection e with e; omega)
  have P0 := P0.near hgw (by omega)
  have E := ext_grown E hgw (fun k hk => by cases hk; omega)
  have qu1 := hgw.size
  clear hr hgw
  go_wp2_with fail
  refine hK.out _ _ ?_ (fun hHeld => ?_)
  · exact ⟨P0.cell0 rfl, P0.cell0 rfl⟩
  clear hK K'
  try simp only [Act.put, List.setIfInBounds_toArray, List.set_cons_zero, List.set_cons_succ]
  refine wpAnyH_ready (rs := [7]) (by kernel_rfl) (by simp) ?_
  refine AllReadyH.cons rfl (fun K' hK => ?_) AllReadyH.nil
  refine if_yes (by rfl) ?_
  try simp only [Act.put, List.getElem_toArray, List.getElem_cons_zero, List.getElem_cons_succ, List.setIfInBounds_toArray, List.set_cons_zero, List.set_cons_succ]
  go_simp
  refine (spec_pick w.heap.size W.heap.size _ 30 _ R.out (by omega)).mono ?_
  rintro e u2 ⟨y2, rfl, -, -, hr, hgw, -⟩
  have R := Lib.hid hr
  have V := Lib.hid (V.out.near hgw (by omega))
  have R0 := R0.grown hgw (fun e => by injection e with e; omega)
  have R1 := R1.grown hgw (fun e => by injection e with e; omega)
  have P0 := P0.near hgw (by omega)
  have E := ext_grown E hgw (fun k hk => by cases hk; omega)
  have qu2 := hgw.size
  clear hr hgw
  go_wp2_with fail
  refine hK.out _ _ ?_ (fun hHeld => ?_)
  · exact ⟨P0.cell0 rfl, P0.cell0 rfl⟩
  clear hK K'
  try simp only [Act.put, List.setIfInBounds_toArray, List.set_cons_zero, List.set_cons_succ]
  refine wpAnyH_take (i := 8) (v := ?_) rfl (by kernel_rfl) (by kernel_rfl) (by kernel_rfl) (fun _ _ _ h => h) (Or.inl ⟨by rfl, fun w' hS' => ?_⟩) (by assumption) ?_
  rotate_left
  · (try dsimp only at hS'); go_simp; (try rw [if_pos (by omega)]); try with_reducible rfl
  try simp only [Act.put, List.getElem_toArray, List.getElem_cons_zero, List.getElem_cons_succ, List.setIfInBounds_toArray, List.set_cons_zero, List.set_cons_succ]
  refine wpAnyH_take (i := 9) (v := ?_) rfl (by kernel_rfl) (by kernel_rfl) (by kernel_rfl) (fun _ _ _ h => h) (Or.inl ⟨by rfl, fun w' hS' => ?_⟩) (by assumption) ?_
  rotate_left
  · (try dsimp only at hS'); go_simp; (try rw [if_pos (by omega)]); try with_reducible rfl
  try simp only [Act.put, List.getElem_toArray, List.getElem_cons_zero, List.getElem_cons_succ, List.setIfInBounds_toArray, List.set_cons_zero, List.set_cons_succ]
  refine wpAnyH_ready (rs := [14]) (by kernel_rfl) (by simp) ?_
  refine AllReadyH.cons rfl (fun K' hK => ?_) AllReadyH.nil
  refine if_yes (by rfl) ?_
  try simp only [Act.put, List.getElem_toArray, List.getElem_cons_zero, List.getElem_cons_succ, List.setIfInBounds_toArray, List.set_cons_zero, List.set_cons_succ]
  go_simp
  refine (spec_pick w.heap.size W.heap.size _ M _ R.out (by omega)).mono ?_
  rintro e u3 ⟨y3, rfl, -, -, hr, hgw, -⟩
  have R := Lib.hid hr
  have V := Lib.hid (V.out.near hgw (by omega))
  have R0 := R0.grown hgw (fun e => by injection e with e; omega)
  have R1 := R1.grown hgw (fun e => by injection e with e; omega)
  have P0 := P0.near hgw (by omega)
  have E := ext_grown E hgw (fun k hk => by cases hk; omega)
  have qu3 := hgw.size
  clear hr hgw
  go_wp2_with fail
  refine hK.out _ _ ?_ (fun hHeld => ?_)
  · exact ⟨P0.cell0 rfl, P0.cell0 rfl⟩
  clear hK K'
  try simp only [Act.put, List.setIfInBounds_toArray, List.set_cons_zero, List.set_cons_succ]
  refine wpAnyH_ready (rs := [16]) (by kernel_rfl) (by simp) ?_
  refine AllReadyH.cons rfl (fun K' hK => ?_) AllReadyH.nil
  refine if_yes (by rfl) ?_
  try simp only [Act.put, List.getElem_toArray, List.getElem_cons_zero, List.getElem_cons_succ, List.setIfInBounds_toArray, List.set_cons_zero, List.set_cons_succ]
  go_simp
  refine (spec_pick w.heap.size W.heap.size _ 30 _ R.out (by omega)).mono ?_
  rintro e u4 ⟨y4, rfl, -, -, hr, hgw, -⟩
  have R := Lib.hid hr
  have V := Lib.hid (V.out.near hgw (by omega))
  have R0 := R0.grown hgw (fun e => by injection e with e; omega)
  have R1 := R1.grown hgw (fun e => by injection e with e; omega)
  have P0 := P0.near hgw (by omega)
  have E := ext_grown E hgw (fun k hk => by cases hk; omega)
  have qu4 := hgw.size
  clear hr hgw
  go_wp2_with fail
  refine hK.out _ _ ?_ (fun hHeld => ?_)
  · exact ⟨P0.cell0 rfl, P0.cell0 rfl⟩
  clear hK K'
  try simp only [Act.put, List.setIfInBounds_toArray, List.set_cons_zero, List.set_cons_succ]
  refine wpAnyH_take (i := 17) (v := ?_) rfl (by kernel_rfl) (by kernel_rfl) (by kernel_rfl) (fun _ _ _ h => h) (Or.inl ⟨by rfl, fun w' hS' => ?_⟩) (by assumption) ?_
  rotate_left
  · (try dsimp only at hS'); go_simp; (try rw [if_pos (by omega)]); try with_reducible rfl
  try simp only [Act.put, List.getElem_toArray, List.getElem_cons_zero, List.getElem_cons_succ, List.setIfInBounds_toArray, List.set_cons_zero, List.set_cons_succ]
  refine wpAnyH_ready (rs := [19]) (by kernel_rfl) (by simp) ?_
  refine AllReadyH.cons rfl (fun K' hK => ?_) AllReadyH.nil
  refine if_yes (by rfl) ?_
  try simp only [Act.put, List.getElem_toArray, List.getElem_cons_zero, List.getElem_cons_succ, List.setIfInBounds_toArray, List.set_cons_zero, List.set_cons_succ]
  go_simp
  refine (spec_pick w.heap.size W.heap.size _ 30 _ R.out (by omega)).mono ?_
  rintro e u5 ⟨y5, rfl, -, -, hr, hgw, -⟩
  have R := Lib.hid hr
  have V := Lib.hid (V.out.near hgw (by omega))
  have R0 := R0.grown hgw (fun e => by injection e with e; omega)
  have R1 := R1.grown hgw (fun e => by injection e with e; omega)
  have P0 := P0.near hgw (by omega)
  have E := ext_grown E hgw (fun k hk => by cases hk; omega)
  have qu5 := hgw.size
  clear hr hgw
  go_wp2_with fail
  refine hK.out _ _ ?_ (fun hHeld => ?_)
  · exact ⟨P0.cell0 rfl, P0.cell0 rfl⟩
  clear hK K'
  try simp only [Act.put, List.setIfInBounds_toArray, List.set_cons_zero, List.set_cons_succ]
  refine wpAnyH_take (i := 20) (v := ?_) rfl (by kernel_rfl) (by kernel_rfl) (by kernel_rfl) (fun _ _ _ h => h) (Or.inl ⟨by rfl, fun w' hS' => ?_⟩) (by assumption) ?_
  rotate_left
  · (try dsimp only at hS'); go_simp; (try rw [if_pos (by omega)]); try with_reducible rfl
  try simp only [Act.put, List.getElem_toArray, List.getElem_cons_zero, List.getElem_cons_succ, List.setIfInBounds_toArray, List.set_cons_zero, List.set_cons_succ]
  refine wpAnyH_take (i := 21) (v := ?_) rfl (by kernel_rfl) (by kernel_rfl) (by kernel_rfl) (fun _ _ _ h => h) (Or.inl ⟨by rfl, fun w' hS' => ?_⟩) (by assumption) ?_
  rotate_left
  · (try dsimp only at hS'); go_simp; (try rw [if_pos (by omega)]); try with_reducible rfl
  try simp only [Act.put, List.getElem_toArray, List.getElem_cons_zero, List.getElem_cons_succ, List.setIfInBounds_toArray, List.set_cons_zero, List.set_cons_succ]
  refine wpAnyH_take (i := 22) (v := ?_) rfl (by kernel_rfl) (by kernel_rfl) (by kernel_rfl) (fun _ _ _ h => h) (Or.inl ⟨by rfl, fun w' hS' => ?_⟩) (by assumption) ?_
  rotate_left
  · (try dsimp only at hS'); go_simp; (try rw [if_pos (by omega)]); try with_reducible rfl
  try simp only [Act.put, List.getElem_toArray, List.getElem_cons_zero, List.getElem_cons_succ, List.setIfInBounds_toArray, List.set_cons_zero, List.set_cons_succ]
  refine wpAnyH_take (i := 23) (v := ?_) rfl (by kernel_rfl) (by kernel_rfl) (by kernel_rfl) (fun _ _ _ h => h) (Or.inl ⟨by rfl, fun w' hS' => ?_⟩) (by assumption) ?_
  rotate_left
  · (try dsimp only at hS'); go_simp; (try rw [if_pos (by omega)]); try with_reducible rfl
  try simp only [Act.put, List.getElem_toArray, List.getElem_cons_zero, List.getElem_cons_succ, List.setIfInBounds_toArray, List.set_cons_zero, List.set_cons_succ]
  obtain ⟨rc0, rz0⟩ := (R0).rules; have rl0 := (R0).lt
  obtain ⟨rc1, rz1⟩ := (R1).rules; have rl1 := (R1).lt
  refine wpAnyH_ready (rs := [24]) (by kernel_rfl) (by simp) ?_
  refine AllReadyH.cons rfl (fun K' hK => ?_) AllReadyH.nil
  refine if_yes (by rfl) ?_
  try simp only [Act.put, List.getElem_toArray, List.getElem_cons_zero, List.getElem_cons_succ, List.setIfInBounds_toArray, List.set_cons_zero, List.set_cons_succ]
  go_simp
  refine hK.out _ _ ?_ (fun hHeld => ?_)
  · exact ⟨((P0.far (p := ⟨w.heap.size, 0, none⟩) (by dsimp only; omega) _).far (p := ⟨w.heap.size, 1, none⟩) (by dsimp only; omega) _).cell0 rfl, ((P0.far (p := ⟨w.heap.size, 0, none⟩) (by dsimp only; omega) _).far (p := ⟨w.heap.size, 1, none⟩) (by dsimp only; omega) _).cell0 rfl⟩
  clear hK K'
  try simp only [Act.put, List.setIfInBounds_toArray, List.set_cons_zero, List.set_cons_succ]
  generalize IntKind.i64.wrap (y1 + IntKind.i64.wrap (y2.tdiv 29)) = bf
  generalize IntKind.i64.wrap (IntKind.i64.wrap (y4 - 10) + IntKind.i64.wrap (IntKind.i64.wrap (y5.tdiv 29) * 99)) = bm
  refine wpAnyH_ready (rs := [25]) (by kernel_rfl) (by simp) ?_
  refine AllReadyH.cons rfl (fun K' hK => ?_) AllReadyH.nil
  refine if_yes (by rfl) ?_
  try simp only [Act.put, List.getElem_toArray, List.getElem_cons_zero, List.getElem_cons_succ, List.setIfInBounds_toArray, List.set_cons_zero, List.set_cons_succ]
  go_simp
  have F0 := (((((R0.set 0 (.int .i64 p.pts)).set 1 (.slice av p.bs.length cv)).far (p := ⟨w.heap.size + 1, 0, none⟩) (by dsimp only; omega) (.int .i64 bf)).far (p := ⟨w.heap.size + 1, 1, none⟩) (by dsimp only; omega) (.int .i64 y3)).far (p := ⟨w.heap.size + 1, 2, none⟩) (by dsimp only; omega) (.int .i64 bm))
  have F1 := (((((R1.far (p := ⟨w.heap.size, 0, none⟩) (by dsimp only; omega) (.int .i64 p.pts)).far (p := ⟨w.heap.size, 1, none⟩) (by dsimp only; omega) (.slice av p.bs.length cv)).set 0 (.int .i64 bf)).set 1 (.int .i64 y3)).set 2 (.int .i64 bm))
  have PF := (((((P0.far (p := ⟨w.heap.size, 0, none⟩) (by dsimp only; omega) (.int .i64 p.pts)).far (p := ⟨w.heap.size, 1, none⟩) (by dsimp only; omega) (.slice av p.bs.length cv)).far (p := ⟨w.heap.size + 1, 0, none⟩) (by dsimp only; omega) (.int .i64 bf)).far (p := ⟨w.heap.size + 1, 1, none⟩) (by dsimp only; omega) (.int .i64 y3)).far (p := ⟨w.heap.size + 1, 2, none⟩) (by dsimp only; omega) (.int .i64 bm))
  obtain ⟨wf, hwf⟩ : ∃ wf, Hid (wf = ((((u5.setCell ⟨w.heap.size, 0, none⟩ (.int .i64 p.pts)).setCell ⟨w.heap.size, 1, none⟩ (.slice av p.bs.length cv)).setCell ⟨w.heap.size + 1, 0, none⟩ (.int .i64 bf)).setCell ⟨w.heap.size + 1, 1, none⟩ (.int .i64 y3)).setCell ⟨w.heap.size + 1, 2, none⟩ (.int .i64 bm)) := ⟨_, rfl⟩
  have F0 : Box wf w.heap.size 25 #[.int .i64 p.pts, .slice av p.bs.length cv] := by rw [hwf.out]; exact F0
  have PF : Box wf w2.heap.size 25 #[.int .i64 p.pts, .slice av p.bs.length cv] := by rw [hwf.out]; exact PF
  have F1 : Box wf (w.heap.size + 1) 40 #[.int .i64 bf, .int .i64 y3, .int .i64 bm] := by rw [hwf.out]; exact F1
  have VF : Hid (Bds wf w1.heap.size (.slice av p.bs.length cv) p.bs) := by rw [hwf.out]; exact Lib.hid (((((V.out.low (by dsimp only; omega) _).low (by dsimp only; omega) _).low (by dsimp only; omega) _).low (by dsimp only; omega) _).low (by dsimp only; omega) _)
  have EF : Below w.heap.size w wf := by rw [hwf.out]; exact (ext_set (ext_set (ext_set (ext_set (ext_set E (by dsimp only; omega) _) (by dsimp only; omega) _) (by dsimp only; omega) _) (by dsimp only; omega) _) (by dsimp only; omega) _)
  rw [← hwf.out]
  refine hK.out _ _ ?_ (fun hHeld => ?_)
  · exact ⟨PF.cell0 rfl, PF.cell0 rfl⟩
  clear hK K'
  try simp only [Act.put, List.setIfInBounds_toArray, List.set_cons_zero, List.set_cons_succ]
  refine wpAnyH_done (by kernel_rfl) ?_ _
  try simp only [Act.put, List.setIfInBounds_toArray, List.set_cons_zero, List.set_cons_succ]
  clear rc0 rz0 rl0 rc1 rz1 rl1
  obtain ⟨rc0, rz0⟩ := (F0).rules; have rl0 := (F0).lt
  obtain ⟨rc1, rz1⟩ := (F1).rules; have rl1 := (F1).lt
  go_wp2_with fail
  refine bodyPost_ret (v := .tuple #[.agg #[.int .i64 p.pts, .slice av p.bs.length cv], .agg #[.int .i64 bf, .int .i64 y3, .int .i64 bm]]) (by simp [results, Try.results28, go_sem, *]) rfl ?_
  exact ⟨_, p, ⟨bf, y3, bm⟩, rfl, VF.out.base (by omega), hl, h0, h7, EF⟩
end Go.Proofs.Ytcjdodjjdchnaaa
