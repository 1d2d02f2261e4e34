/- The draws of a plan and one or two of its points. No condition but that the reader, or the code's bytes, can be read. -/
import Derived.Test.YtpccfkbpnfbdaaaDrawPlan
import Derived.Test.YtpccfkbpnfbdaaaDrawnN
import Derived.Test.YtpccfkbpnfbdaaaTail
import Derived.Deep.Cut
namespace Go.Proofs.Ytpccfkbpnfbdaaa
open Go.RowKit
set_option linter.unusedVariables false
set_option linter.unusedSimpArgs false
set_option maxRecDepth 100000 in
set_option maxHeartbeats 4000000 in
theorem spec_l20Pointed (B g m : Nat) (w : World) (h : Rd w B g m) (hm : m ≤ 90000) :
    Calls Try.prog 73 #[.pointer (some ⟨g, 0, none⟩)] w fun e w' => ∃ (bs : Value) (p : Pl) (k : Int), e = .returned (.tuple #[.agg #[.int .i64 p.pts, bs], .int .i64 k]) ∧ Bds w' w.heap.size bs p.bs ∧ p.bs.length ≤ 10 ∧ 0 ≤ p.pts ∧ p.pts ≤ 7 ∧ (∃ m', Rd w' B g m' ∧ m' ≤ m + 400) ∧ w.grownBy w' (some g) := by
  have R := Lib.hid h
  have hgl := h.lt
  clear h
  go_enter Try.func73, Try.ntmps73
  go_wp2_with fail
  obtain ⟨W, hW, R0, hs, E⟩ := one_box w #[.int .i64 0, .slice none 0 0] 29
  rw [← hW.out]
  have G := Lib.hid (grown_of_ext (some g) E)
  have R := Lib.hid (R.out.ext E)
  clear E
  refine (spec_l20Plan B g m 12 _ R.out (by omega) (by omega)).mono ?_
  rintro e w1 ⟨bs, p, rfl, hbs, hl, h0, h7, hr, hg⟩
  have G := Lib.hid (grown_trans' G.out hg)
  have R0 := R0.near hg (by omega)
  have q1 := hg.size
  have R := Lib.hid hr
  obtain ⟨av, cv, rfl, -⟩ := hbs.open
  have V := Lib.hid hbs
  clear hbs hr hg
  go_upto_region 2 with fail
  obtain ⟨w2, hw2, P0, hs2, E2⟩ := one_box w1 #[.int .i64 p.pts, .slice av p.bs.length cv] 29
  rw [← hw2.out]
  have R := Lib.hid (R.out.ext E2)
  have V := Lib.hid (V.out.ext E2)
  have R0 := R0.ext E2
  have G := Lib.hid (grown_ext' G.out E2)
  clear E2
  refine wp_region_held_drew (S := fun w' => w'.cell? ⟨w1.heap.size, 0, none⟩ = some (Value.int .i64 p.pts) ∧ w'.cell? ⟨w1.heap.size, 1, none⟩ = some (Value.slice av p.bs.length cv)) (by kernel_rfl) ?_ (fun hHeld => ?_)
  · exact ⟨P0.cell0 rfl, P0.cell0 rfl⟩
  have R := Lib.hid R.out.drew
  have G := Lib.hid (grown_drew' G.out)
  have V := Lib.hid V.out.drew
  have R0 := R0.drew
  have P0 := P0.drew
  obtain ⟨d, hd⟩ : ∃ d, Hid (d = w2.drew) := ⟨_, rfl⟩
  have qd : w2.heap.size ≤ d.heap.size := by rw [hd.out]; exact Nat.le_refl _
  rw [← hd.out] at R G V R0 P0 hHeld ⊢
  try simp only [Act.put, List.setIfInBounds_toArray, List.set_cons_zero, List.set_cons_succ]
  obtain ⟨mx, hmx, hmx0⟩ : ∃ mx : Int, Hid ((if p.pts < 1 then 1 else p.pts) = mx) ∧ 0 ≤ mx := ⟨_, rfl, by split <;> omega⟩
  refine wpAnyH_take (i := 0) (v := ?_) rfl (by kernel_rfl) (by kernel_rfl) (by kernel_rfl) (fun _ _ _ h => h) (Or.inl ⟨by rfl, fun w' hS' => ?_⟩) (by assumption) ?_
  rotate_left
  · (try dsimp only at hS'); go_simp; (try rw [if_pos (by omega)]); try with_reducible rfl
  try simp only [Act.put, List.getElem_toArray, List.getElem_cons_zero, List.getElem_cons_succ, List.setIfInBounds_toArray, List.set_cons_zero, List.set_cons_succ]
  refine wpAnyH_take (i := 1) (v := ?_) rfl (by kernel_rfl) (by kernel_rfl) (by kernel_rfl) (fun _ _ _ h => h) (Or.inl ⟨by rfl, fun w' hS' => ?_⟩) (by assumption) ?_
  rotate_left
  · (try dsimp only at hS'); go_simp; (try rw [if_pos (by omega)]); try with_reducible rfl
  try simp only [Act.put, List.getElem_toArray, List.getElem_cons_zero, List.getElem_cons_succ, List.setIfInBounds_toArray, List.set_cons_zero, List.set_cons_succ]
  refine wpAnyH_take (i := 2) (v := ?_) rfl (by kernel_rfl) (by kernel_rfl) (by kernel_rfl) (fun _ _ _ h => h) (Or.inl ⟨by rfl, fun w' hS' => ?_⟩) (by assumption) ?_
  rotate_left
  · (try dsimp only at hS'); go_simp; (try rw [if_pos (by omega)]); try with_reducible rfl
  try simp only [Act.put, List.getElem_toArray, List.getElem_cons_zero, List.getElem_cons_succ, List.setIfInBounds_toArray, List.set_cons_zero, List.set_cons_succ]
  refine wpAnyH_take (i := 3) (v := ?_) rfl (by kernel_rfl) (by kernel_rfl) (by kernel_rfl) (fun _ _ _ h => h) (Or.inl ⟨by rfl, fun w' hS' => ?_⟩) (by assumption) ?_
  rotate_left
  · (try dsimp only at hS'); go_simp; (try rw [if_pos (by omega)]); try with_reducible rfl
  try simp only [Act.put, List.getElem_toArray, List.getElem_cons_zero, List.getElem_cons_succ, List.setIfInBounds_toArray, List.set_cons_zero, List.set_cons_succ]
  refine wpAnyH_take (i := 6) (v := ?_) rfl (by kernel_rfl) (by kernel_rfl) (by kernel_rfl) (fun _ _ _ h => h) (Or.inl ⟨by rfl, fun w' hS' => ?_⟩) (by assumption) ?_
  rotate_left
  · (try dsimp only at hS'); go_simp; (try rw [if_pos (by omega)]); try with_reducible rfl
  try simp only [Act.put, List.getElem_toArray, List.getElem_cons_zero, List.getElem_cons_succ, List.setIfInBounds_toArray, List.set_cons_zero, List.set_cons_succ]
  refine wpAnyH_take (i := 10) (v := ?_) rfl (by kernel_rfl) (by kernel_rfl) (by kernel_rfl) (fun _ _ _ h => h) (Or.inl ⟨by rfl, fun w' hS' => ?_⟩) (by assumption) ?_
  rotate_left
  · (try dsimp only at hS'); go_simp; (try rw [if_pos (by omega)]); try with_reducible rfl
  try simp only [Act.put, List.getElem_toArray, List.getElem_cons_zero, List.getElem_cons_succ, List.setIfInBounds_toArray, List.set_cons_zero, List.set_cons_succ]
  refine wpAnyH_take (i := 4) (v := ?_) rfl (by kernel_rfl) (by kernel_rfl) (by kernel_rfl) (fun _ _ _ h => h) (Or.inl ⟨by rfl, fun w' hS' => ?_⟩) (by assumption) ?_
  rotate_left
  · (try dsimp only at hS'); go_simp; (try rw [if_pos (by omega)]); try with_reducible rfl
  try simp only [Act.put, List.getElem_toArray, List.getElem_cons_zero, List.getElem_cons_succ, List.setIfInBounds_toArray, List.set_cons_zero, List.set_cons_succ]
  try rw [hmx.out]
  refine wpAnyH_ready (rs := [5]) (by kernel_rfl) (by simp) ?_
  refine AllReadyH.cons rfl (fun K' hK => ?_) AllReadyH.nil
  refine if_yes (by rfl) ?_
  try simp only [Act.put, List.getElem_toArray, List.getElem_cons_zero, List.getElem_cons_succ, List.setIfInBounds_toArray, List.set_cons_zero, List.set_cons_succ]
  go_simp
  refine (spec_pick B g _ mx _ R.out (by omega)).mono ?_
  rintro e u1 ⟨y1, rfl, -, -, hr, hgw, -⟩
  have R := Lib.hid hr
  have V := Lib.hid (V.out.near hgw (by omega))
  have R0 := R0.near hgw (by omega)
  have P0 := P0.near hgw (by omega)
  have G := Lib.hid (grown_trans' G.out hgw)
  have qu1 := hgw.size
  clear hr hgw
  go_wp2_with fail
  refine hK.out _ _ ?_ (fun hHeld => ?_)
  · exact ⟨P0.cell0 rfl, P0.cell0 rfl⟩
  clear hK K'
  try simp only [Act.put, List.setIfInBounds_toArray, List.set_cons_zero, List.set_cons_succ]
  refine wpAnyH_ready (rs := [7]) (by kernel_rfl) (by simp) ?_
  refine AllReadyH.cons rfl (fun K' hK => ?_) AllReadyH.nil
  refine if_yes (by rfl) ?_
  try simp only [Act.put, List.getElem_toArray, List.getElem_cons_zero, List.getElem_cons_succ, List.setIfInBounds_toArray, List.set_cons_zero, List.set_cons_succ]
  go_simp
  refine (spec_pick B g _ 30 _ R.out (by omega)).mono ?_
  rintro e u2 ⟨y2, rfl, -, -, hr, hgw, -⟩
  have R := Lib.hid hr
  have V := Lib.hid (V.out.near hgw (by omega))
  have R0 := R0.near hgw (by omega)
  have P0 := P0.near hgw (by omega)
  have G := Lib.hid (grown_trans' G.out hgw)
  have qu2 := hgw.size
  clear hr hgw
  go_wp2_with fail
  refine hK.out _ _ ?_ (fun hHeld => ?_)
  · exact ⟨P0.cell0 rfl, P0.cell0 rfl⟩
  clear hK K'
  try simp only [Act.put, List.setIfInBounds_toArray, List.set_cons_zero, List.set_cons_succ]
  refine wpAnyH_take (i := 8) (v := ?_) rfl (by kernel_rfl) (by kernel_rfl) (by kernel_rfl) (fun _ _ _ h => h) (Or.inl ⟨by rfl, fun w' hS' => ?_⟩) (by assumption) ?_
  rotate_left
  · (try dsimp only at hS'); go_simp; (try rw [if_pos (by omega)]); try with_reducible rfl
  try simp only [Act.put, List.getElem_toArray, List.getElem_cons_zero, List.getElem_cons_succ, List.setIfInBounds_toArray, List.set_cons_zero, List.set_cons_succ]
  refine wpAnyH_take (i := 9) (v := ?_) rfl (by kernel_rfl) (by kernel_rfl) (by kernel_rfl) (fun _ _ _ h => h) (Or.inl ⟨by rfl, fun w' hS' => ?_⟩) (by assumption) ?_
  rotate_left
  · (try dsimp only at hS'); go_simp; (try rw [if_pos (by omega)]); try with_reducible rfl
  try simp only [Act.put, List.getElem_toArray, List.getElem_cons_zero, List.getElem_cons_succ, List.setIfInBounds_toArray, List.set_cons_zero, List.set_cons_succ]
  refine wpAnyH_ready (rs := [11]) (by kernel_rfl) (by simp) ?_
  refine AllReadyH.cons rfl (fun K' hK => ?_) AllReadyH.nil
  refine if_yes (by rfl) ?_
  try simp only [Act.put, List.getElem_toArray, List.getElem_cons_zero, List.getElem_cons_succ, List.setIfInBounds_toArray, List.set_cons_zero, List.set_cons_succ]
  go_simp
  refine (spec_pick B g _ 30 _ R.out (by omega)).mono ?_
  rintro e u3 ⟨y3, rfl, -, -, hr, hgw, -⟩
  have R := Lib.hid hr
  have V := Lib.hid (V.out.near hgw (by omega))
  have R0 := R0.near hgw (by omega)
  have P0 := P0.near hgw (by omega)
  have G := Lib.hid (grown_trans' G.out hgw)
  have qu3 := hgw.size
  clear hr hgw
  go_wp2_with fail
  refine hK.out _ _ ?_ (fun hHeld => ?_)
  · exact ⟨P0.cell0 rfl, P0.cell0 rfl⟩
  clear hK K'
  try simp only [Act.put, List.setIfInBounds_toArray, List.set_cons_zero, List.set_cons_succ]
  refine wpAnyH_take (i := 12) (v := ?_) rfl (by kernel_rfl) (by kernel_rfl) (by kernel_rfl) (fun _ _ _ h => h) (Or.inl ⟨by rfl, fun w' hS' => ?_⟩) (by assumption) ?_
  rotate_left
  · (try dsimp only at hS'); go_simp; (try rw [if_pos (by omega)]); try with_reducible rfl
  try simp only [Act.put, List.getElem_toArray, List.getElem_cons_zero, List.getElem_cons_succ, List.setIfInBounds_toArray, List.set_cons_zero, List.set_cons_succ]
  refine wpAnyH_take (i := 13) (v := ?_) rfl (by kernel_rfl) (by kernel_rfl) (by kernel_rfl) (fun _ _ _ h => h) (Or.inl ⟨by rfl, fun w' hS' => ?_⟩) (by assumption) ?_
  rotate_left
  · (try dsimp only at hS'); go_simp; (try rw [if_pos (by omega)]); try with_reducible rfl
  try simp only [Act.put, List.getElem_toArray, List.getElem_cons_zero, List.getElem_cons_succ, List.setIfInBounds_toArray, List.set_cons_zero, List.set_cons_succ]
  generalize IntKind.i64.wrap (_ - _) = kk
  obtain ⟨rc0, rz0⟩ := (R0).rules; have rl0 := (R0).lt
  refine wpAnyH_ready (rs := [14]) (by kernel_rfl) (by simp) ?_
  refine AllReadyH.cons rfl (fun K' hK => ?_) AllReadyH.nil
  refine if_yes (by rfl) ?_
  try simp only [Act.put, List.getElem_toArray, List.getElem_cons_zero, List.getElem_cons_succ, List.setIfInBounds_toArray, List.set_cons_zero, List.set_cons_succ]
  go_simp
  have PF := (P0.far (p := ⟨w.heap.size, 0, none⟩) (by dsimp only; omega) (.int .i64 p.pts)).far (p := ⟨w.heap.size, 1, none⟩) (by dsimp only; omega) (.slice av p.bs.length cv)
  have F0 := (R0.set 0 (.int .i64 p.pts)).set 1 (.slice av p.bs.length cv)
  have VF := (V.out.low (p := ⟨w.heap.size, 0, none⟩) (by dsimp only; omega) (.int .i64 p.pts)).low (p := ⟨w.heap.size, 1, none⟩) (by dsimp only; omega) (.slice av p.bs.length cv)
  have GF := grown_set' (k := w.heap.size) (i := 1) (grown_set' (k := w.heap.size) (i := 0) G.out (Nat.le_refl _) (.int .i64 p.pts)) (Nat.le_refl _) (.slice av p.bs.length cv)
  obtain ⟨wf, hwf⟩ : ∃ wf, Hid (wf = (u3.setCell ⟨w.heap.size, 0, none⟩ (.int .i64 p.pts)).setCell ⟨w.heap.size, 1, none⟩ (.slice av p.bs.length cv)) := ⟨_, rfl⟩
  have R := Lib.hid ((R.out.set (by dsimp only; omega) (by dsimp only; omega) (.int .i64 p.pts) (p := ⟨w.heap.size, 0, none⟩)).set (by dsimp only; omega) (by dsimp only; omega) (.slice av p.bs.length cv) (p := ⟨w.heap.size, 1, none⟩))
  rw [← hwf.out] at PF F0 VF GF R ⊢
  have VF := Lib.hid VF
  have GF := Lib.hid GF
  refine hK.out _ _ ?_ (fun hHeld => ?_)
  · exact ⟨PF.cell0 rfl, PF.cell0 rfl⟩
  clear hK K' rc0 rz0 rl0
  try simp only [Act.put, List.setIfInBounds_toArray, List.set_cons_zero, List.set_cons_succ]
  refine wpAnyH_take (i := 15) (v := ?_) rfl (by kernel_rfl) (by kernel_rfl) (by kernel_rfl) (fun _ _ _ h => h) (Or.inl ⟨by rfl, fun w' hS' => ?_⟩) (by assumption) ?_
  rotate_left
  · (try dsimp only at hS'); go_simp; (try rw [if_pos (by omega)]); try with_reducible rfl
  try simp only [Act.put, List.getElem_toArray, List.getElem_cons_zero, List.getElem_cons_succ, List.setIfInBounds_toArray, List.set_cons_zero, List.set_cons_succ]
  refine wpAnyH_done (by kernel_rfl) ?_ _
  try simp only [Act.put, List.setIfInBounds_toArray, List.set_cons_zero, List.set_cons_succ]
  have F0 : Box wf w.heap.size 29 #[.int .i64 p.pts, .slice av p.bs.length cv] := F0
  obtain ⟨rc0, rz0⟩ := (F0).rules; have rl0 := (F0).lt
  go_wp2_with fail
  refine bodyPost_ret (v := .tuple #[.agg #[.int .i64 p.pts, .slice av p.bs.length cv], .int .i64 kk]) (by simp [results, Try.results73, go_sem, *]) rfl ?_
  exact ⟨_, p, kk, rfl, VF.out.base (by omega), hl, h0, h7, ⟨_, R.out, by omega⟩, GF.out⟩
set_option maxRecDepth 100000 in
set_option maxHeartbeats 4000000 in
theorem spec_l20Pair (B g m : Nat) (w : World) (h : Rd w B g m) (hm : m ≤ 80000) :
    Calls Try.prog 49 #[.pointer (some ⟨g, 0, none⟩)] w fun e w' => ∃ (bs : Value) (p : Pl) (f t : Int), e = .returned (.tuple #[.agg #[.int .i64 p.pts, bs], .int .i64 f, .int .i64 t]) ∧ Bds w' w.heap.size bs p.bs ∧ p.bs.length ≤ 10 ∧ 0 ≤ p.pts ∧ p.pts ≤ 7 ∧ w.grownBy w' (some g) := by
  have R := Lib.hid h
  have hgl := h.lt
  clear h
  go_enter Try.func49, Try.ntmps49
  go_wp2_with fail
  obtain ⟨W, hW, R0, hs, E⟩ := one_box w #[.int .i64 0, .slice none 0 0] 29
  rw [← hW.out]
  have G := Lib.hid (grown_of_ext (some g) E)
  have R := Lib.hid (R.out.ext E)
  clear E
  refine (spec_l20Pointed B g m _ R.out (by omega)).mono ?_
  rintro e w1 ⟨bs, p, f, rfl, hbs, hl, h0, h7, ⟨m', hr, hm'⟩, hg⟩
  have G := Lib.hid (grown_trans' G.out hg)
  have R0 := R0.near hg (by omega)
  have q1 := hg.size
  have R := Lib.hid hr
  obtain ⟨av, cv, rfl, -⟩ := hbs.open
  have V := Lib.hid hbs
  clear hbs hr hg
  go_upto_region 2 with fail
  obtain ⟨w2, hw2, P0, hs2, E2⟩ := one_box w1 #[.int .i64 p.pts, .slice av p.bs.length cv] 29
  rw [← hw2.out]
  have R := Lib.hid (R.out.ext E2)
  have V := Lib.hid (V.out.ext E2)
  have R0 := R0.ext E2
  have G := Lib.hid (grown_ext' G.out E2)
  clear E2
  refine wp_region_held_drew (S := fun w' => w'.cell? ⟨w1.heap.size, 0, none⟩ = some (Value.int .i64 p.pts) ∧ w'.cell? ⟨w1.heap.size, 1, none⟩ = some (Value.slice av p.bs.length cv)) (by kernel_rfl) ?_ (fun hHeld => ?_)
  · exact ⟨P0.cell0 rfl, P0.cell0 rfl⟩
  have R := Lib.hid R.out.drew
  have G := Lib.hid (grown_drew' G.out)
  have V := Lib.hid V.out.drew
  have R0 := R0.drew
  have P0 := P0.drew
  obtain ⟨d, hd⟩ : ∃ d, Hid (d = w2.drew) := ⟨_, rfl⟩
  have qd : w2.heap.size ≤ d.heap.size := by rw [hd.out]; exact Nat.le_refl _
  rw [← hd.out] at R G V R0 P0 hHeld ⊢
  try simp only [Act.put, List.setIfInBounds_toArray, List.set_cons_zero, List.set_cons_succ]
  obtain ⟨mx, hmx, hmx0⟩ : ∃ mx : Int, Hid ((if p.pts < 1 then 1 else p.pts) = mx) ∧ 0 ≤ mx := ⟨_, rfl, by split <;> omega⟩
  refine wpAnyH_take (i := 0) (v := ?_) rfl (by kernel_rfl) (by kernel_rfl) (by kernel_rfl) (fun _ _ _ h => h) (Or.inl ⟨by rfl, fun w' hS' => ?_⟩) (by assumption) ?_
  rotate_left
  · (try dsimp only at hS'); go_simp; (try rw [if_pos (by omega)]); try with_reducible rfl
  try simp only [Act.put, List.getElem_toArray, List.getElem_cons_zero, List.getElem_cons_succ, List.setIfInBounds_toArray, List.set_cons_zero, List.set_cons_succ]
  refine wpAnyH_take (i := 1) (v := ?_) rfl (by kernel_rfl) (by kernel_rfl) (by kernel_rfl) (fun _ _ _ h => h) (Or.inl ⟨by rfl, fun w' hS' => ?_⟩) (by assumption) ?_
  rotate_left
  · (try dsimp only at hS'); go_simp; (try rw [if_pos (by omega)]); try with_reducible rfl
  try simp only [Act.put, List.getElem_toArray, List.getElem_cons_zero, List.getElem_cons_succ, List.setIfInBounds_toArray, List.set_cons_zero, List.set_cons_succ]
  refine wpAnyH_take (i := 2) (v := ?_) rfl (by kernel_rfl) (by kernel_rfl) (by kernel_rfl) (fun _ _ _ h => h) (Or.inl ⟨by rfl, fun w' hS' => ?_⟩) (by assumption) ?_
  rotate_left
  · (try dsimp only at hS'); go_simp; (try rw [if_pos (by omega)]); try with_reducible rfl
  try simp only [Act.put, List.getElem_toArray, List.getElem_cons_zero, List.getElem_cons_succ, List.setIfInBounds_toArray, List.set_cons_zero, List.set_cons_succ]
  refine wpAnyH_take (i := 3) (v := ?_) rfl (by kernel_rfl) (by kernel_rfl) (by kernel_rfl) (fun _ _ _ h => h) (Or.inl ⟨by rfl, fun w' hS' => ?_⟩) (by assumption) ?_
  rotate_left
  · (try dsimp only at hS'); go_simp; (try rw [if_pos (by omega)]); try with_reducible rfl
  try simp only [Act.put, List.getElem_toArray, List.getElem_cons_zero, List.getElem_cons_succ, List.setIfInBounds_toArray, List.set_cons_zero, List.set_cons_succ]
  refine wpAnyH_take (i := 4) (v := ?_) rfl (by kernel_rfl) (by kernel_rfl) (by kernel_rfl) (fun _ _ _ h => h) (Or.inl ⟨by rfl, fun w' hS' => ?_⟩) (by assumption) ?_
  rotate_left
  · (try dsimp only at hS'); go_simp; (try rw [if_pos (by omega)]); try with_reducible rfl
  try simp only [Act.put, List.getElem_toArray, List.getElem_cons_zero, List.getElem_cons_succ, List.setIfInBounds_toArray, List.set_cons_zero, List.set_cons_succ]
  refine wpAnyH_take (i := 5) (v := ?_) rfl (by kernel_rfl) (by kernel_rfl) (by kernel_rfl) (fun _ _ _ h => h) (Or.inl ⟨by rfl, fun w' hS' => ?_⟩) (by assumption) ?_
  rotate_left
  · (try dsimp only at hS'); go_simp; (try rw [if_pos (by omega)]); try with_reducible rfl
  try simp only [Act.put, List.getElem_toArray, List.getElem_cons_zero, List.getElem_cons_succ, List.setIfInBounds_toArray, List.set_cons_zero, List.set_cons_succ]
  try rw [hmx.out]
  refine wpAnyH_ready (rs := [6]) (by kernel_rfl) (by simp) ?_
  refine AllReadyH.cons rfl (fun K' hK => ?_) AllReadyH.nil
  refine if_yes (by rfl) ?_
  try simp only [Act.put, List.getElem_toArray, List.getElem_cons_zero, List.getElem_cons_succ, List.setIfInBounds_toArray, List.set_cons_zero, List.set_cons_succ]
  go_simp
  refine (spec_pick B g _ mx _ R.out (by omega)).mono ?_
  rintro e u1 ⟨t, rfl, -, -, hr, hgw, -⟩
  have R := Lib.hid hr
  have V := Lib.hid (V.out.near hgw (by omega))
  have R0 := R0.near hgw (by omega)
  have P0 := P0.near hgw (by omega)
  have G := Lib.hid (grown_trans' G.out hgw)
  have qu1 := hgw.size
  clear hr hgw
  go_wp2_with fail
  refine hK.out _ _ ?_ (fun hHeld => ?_)
  · exact ⟨P0.cell0 rfl, P0.cell0 rfl⟩
  clear hK K'
  try simp only [Act.put, List.setIfInBounds_toArray, List.set_cons_zero, List.set_cons_succ]
  obtain ⟨rc0, rz0⟩ := (R0).rules; have rl0 := (R0).lt
  refine wpAnyH_ready (rs := [7]) (by kernel_rfl) (by simp) ?_
  refine AllReadyH.cons rfl (fun K' hK => ?_) AllReadyH.nil
  refine if_yes (by rfl) ?_
  try simp only [Act.put, List.getElem_toArray, List.getElem_cons_zero, List.getElem_cons_succ, List.setIfInBounds_toArray, List.set_cons_zero, List.set_cons_succ]
  go_simp
  have PF := (P0.far (p := ⟨w.heap.size, 0, none⟩) (by dsimp only; omega) (.int .i64 p.pts)).far (p := ⟨w.heap.size, 1, none⟩) (by dsimp only; omega) (.slice av p.bs.length cv)
  have F0 := (R0.set 0 (.int .i64 p.pts)).set 1 (.slice av p.bs.length cv)
  have VF := (V.out.low (p := ⟨w.heap.size, 0, none⟩) (by dsimp only; omega) (.int .i64 p.pts)).low (p := ⟨w.heap.size, 1, none⟩) (by dsimp only; omega) (.slice av p.bs.length cv)
  have GF := grown_set' (k := w.heap.size) (i := 1) (grown_set' (k := w.heap.size) (i := 0) G.out (Nat.le_refl _) (.int .i64 p.pts)) (Nat.le_refl _) (.slice av p.bs.length cv)
  obtain ⟨wf, hwf⟩ : ∃ wf, Hid (wf = (u1.setCell ⟨w.heap.size, 0, none⟩ (.int .i64 p.pts)).setCell ⟨w.heap.size, 1, none⟩ (.slice av p.bs.length cv)) := ⟨_, rfl⟩
  have R := Lib.hid ((R.out.set (by dsimp only; omega) (by dsimp only; omega) (.int .i64 p.pts) (p := ⟨w.heap.size, 0, none⟩)).set (by dsimp only; omega) (by dsimp only; omega) (.slice av p.bs.length cv) (p := ⟨w.heap.size, 1, none⟩))
  rw [← hwf.out] at PF F0 VF GF R ⊢
  have VF := Lib.hid VF
  have GF := Lib.hid GF
  refine hK.out _ _ ?_ (fun hHeld => ?_)
  · exact ⟨PF.cell0 rfl, PF.cell0 rfl⟩
  clear hK K' rc0 rz0 rl0
  try simp only [Act.put, List.setIfInBounds_toArray, List.set_cons_zero, List.set_cons_succ]
  refine wpAnyH_take (i := 8) (v := ?_) rfl (by kernel_rfl) (by kernel_rfl) (by kernel_rfl) (fun _ _ _ h => h) (Or.inl ⟨by rfl, fun w' hS' => ?_⟩) (by assumption) ?_
  rotate_left
  · (try dsimp only at hS'); go_simp; (try rw [if_pos (by omega)]); try with_reducible rfl
  try simp only [Act.put, List.getElem_toArray, List.getElem_cons_zero, List.getElem_cons_succ, List.setIfInBounds_toArray, List.set_cons_zero, List.set_cons_succ]
  refine wpAnyH_take (i := 9) (v := ?_) rfl (by kernel_rfl) (by kernel_rfl) (by kernel_rfl) (fun _ _ _ h => h) (Or.inl ⟨by rfl, fun w' hS' => ?_⟩) (by assumption) ?_
  rotate_left
  · (try dsimp only at hS'); go_simp; (try rw [if_pos (by omega)]); try with_reducible rfl
  try simp only [Act.put, List.getElem_toArray, List.getElem_cons_zero, List.getElem_cons_succ, List.setIfInBounds_toArray, List.set_cons_zero, List.set_cons_succ]
  refine wpAnyH_done (by kernel_rfl) ?_ _
  try simp only [Act.put, List.setIfInBounds_toArray, List.set_cons_zero, List.set_cons_succ]
  have F0 : Box wf w.heap.size 29 #[.int .i64 p.pts, .slice av p.bs.length cv] := F0
  obtain ⟨rc0, rz0⟩ := (F0).rules; have rl0 := (F0).lt
  go_wp2_with fail
  refine bodyPost_ret (v := .tuple #[.agg #[.int .i64 p.pts, .slice av p.bs.length cv], .int .i64 f, .int .i64 t]) (by simp [results, Try.results49, go_sem, *]) rfl ?_
  exact ⟨_, p, f, t, rfl, VF.out.base (by omega), hl, h0, h7, GF.out⟩
def RetDrawnPair (w : World) : Ending → World → Prop := fun e w' => ∃ (bs : Value) (p : Pl) (f t : Int), e = .returned (.tuple #[.agg #[.int .i64 p.pts, bs], .int .i64 f, .int .i64 t]) ∧ Bds w' w.heap.size bs p.bs ∧ p.bs.length ≤ 10 ∧ 0 ≤ p.pts ∧ p.pts ≤ 7 ∧ Below w.heap.size w w'
set_option maxHeartbeats 2000000 in
theorem spec_DrawMostOf (a : Option Addr) (n cap : Nat) (w : World) (h : Byt w w.heap.size a n cap) : Calls Try.prog 20 #[.slice a n cap] w (RetDrawnPair w) := by
  have H := Lib.hid h
  clear h
  go_enter Try.func20, Try.ntmps20
  go_wp2_with fail
  obtain ⟨W, hW, B0, hs, E⟩ := one_box w #[.int .i64 0, .slice none 0 0] 29
  rw [← hW.out]
  refine (spec_l20Open a n cap W w.heap.size (by omega) (H.out.below E)).mono ?_
  rintro e w1 ⟨rfl, hR, hb1⟩
  have E := ext_trans E hb1
  have B0 := B0.ext hb1
  have R := Lib.hid hR
  have q1 := hb1.size
  clear hR hb1
  go_wp2_with fail
  refine (spec_l20Pair w.heap.size W.heap.size 0 w1 R.out (by omega)).mono ?_
  rintro e w2 ⟨bs, p, f, t, rfl, hbs, hl, h0, h7, hg⟩
  have E := ext_grown E hg (fun k hk => by cases hk; omega)
  have B0 := B0.grown hg (fun e => by injection e with e; omega)
  have q2 := hg.size
  obtain ⟨av, cv, rfl, -⟩ := hbs.open
  have V := Lib.hid hbs
  clear hbs hg
  obtain ⟨rc2, rz2⟩ := (B0).rules; have rl2 := (B0).lt
  go_wp2_with fail
  refine bodyPost_ret (v := .tuple #[.agg #[.int .i64 p.pts, .slice av p.bs.length cv], _, _]) (by simp [results, Try.results20, go_sem, *]; try exact ⟨rfl, rfl⟩) rfl ?_
  exact ⟨_, p, _, _, rfl, ((V.out.low (by dsimp only; omega) _).low (by dsimp only; omega) _).base (by omega), hl, h0, h7, ext_set (ext_set E (Nat.le_refl _) _) (Nat.le_refl _) _⟩
end Go.Proofs.Ytpccfkbpnfbdaaa
