/- The draws of a plan and a number. No condition but that the code's bytes can be read. -/
import Derived.Test.YtpccfkbpnfbdaaaDrawPlan
import Derived.Test.YtpccfkbpnfbdaaaTail
import Derived.Deep.Cut
namespace Go.Proofs.Ytpccfkbpnfbdaaa
open Go.RowKit
set_option linter.unusedVariables false
set_option linter.unusedSimpArgs false
def RetDrawnN (w : World) : Ending → World → Prop := fun e w' => ∃ (bs : Value) (p : Pl) (k : Int), e = .returned (.tuple #[.agg #[.int .i64 p.pts, bs], .int .i64 k]) ∧ Bds w' w.heap.size bs p.bs ∧ p.bs.length ≤ 10 ∧ 0 ≤ p.pts ∧ p.pts ≤ 7 ∧ Below w.heap.size w w'
set_option maxRecDepth 100000 in
set_option maxHeartbeats 4000000 in
theorem spec_l20Bounded (B g m : Nat) (w : World) (h : Rd w B g m) (hm : m ≤ 90000) :
    Calls Try.prog 41 #[.pointer (some ⟨g, 0, none⟩)] w fun e w' => ∃ (bs : Value) (p : Pl) (k : Int), e = .returned (.tuple #[.agg #[.int .i64 p.pts, bs], .int .i64 k]) ∧ Bds w' w.heap.size bs p.bs ∧ p.bs.length ≤ 10 ∧ 0 ≤ p.pts ∧ p.pts ≤ 7 ∧ w.grownBy w' (some g) := by
  have R := Lib.hid h
  have hgl := h.lt
  clear h
  go_enter Try.func41, Try.ntmps41
  go_wp2_with fail
  obtain ⟨W, hW, R0, hs, E⟩ := one_box w #[.int .i64 0, .slice none 0 0] 29
  rw [← hW.out]
  have G := Lib.hid (grown_of_ext (some g) E)
  have R := Lib.hid (R.out.ext E)
  clear E
  refine (spec_l20Plan B g m 12 _ R.out (by omega) (by omega)).mono ?_
  rintro e w1 ⟨bs, p, rfl, hbs, hl, h0, h7, hr, hg⟩
  have G := Lib.hid (grown_trans' G.out hg)
  have R0 := R0.near hg (by omega)
  have q1 := hg.size
  have R := Lib.hid hr
  obtain ⟨av, cv, rfl, -⟩ := hbs.open
  have V := Lib.hid hbs
  clear hbs hr hg
  go_upto_region 2 with fail
  obtain ⟨w2, hw2, P0, hs2, E2⟩ := one_box w1 #[.int .i64 p.pts, .slice av p.bs.length cv] 29
  rw [← hw2.out]
  have R := Lib.hid (R.out.ext E2)
  have V := Lib.hid (V.out.ext E2)
  have R0 := R0.ext E2
  have G := Lib.hid (grown_ext' G.out E2)
  clear E2
  refine wp_region_held_drew (S := fun w' => w'.cell? ⟨w1.heap.size, 0, none⟩ = some (Value.int .i64 p.pts) ∧ w'.cell? ⟨w1.heap.size, 1, none⟩ = some (Value.slice av p.bs.length cv)) (by kernel_rfl) ?_ (fun hHeld => ?_)
  · exact ⟨P0.cell0 rfl, P0.cell0 rfl⟩
  have R := Lib.hid R.out.drew
  have G := Lib.hid (grown_drew' G.out)
  have V := Lib.hid V.out.drew
  have R0 := R0.drew
  have P0 := P0.drew
  obtain ⟨d, hd⟩ : ∃ d, Hid (d = w2.drew) := ⟨_, rfl⟩
  have qd : w2.heap.size ≤ d.heap.size := by rw [hd.out]; exact Nat.le_refl _
  rw [← hd.out] at R G V R0 P0 hHeld ⊢
  try simp only [Act.put, List.setIfInBounds_toArray, List.set_cons_zero, List.set_cons_succ]
  have hlw : IntKind.i64.wrap ((p.bs.length : Int) + 1) = (p.bs.length : Int) + 1 := IntWalk.i64_in _ (by omega)
  refine wpAnyH_take (i := 0) (v := ?_) rfl (by kernel_rfl) (by kernel_rfl) (by kernel_rfl) (fun _ _ _ h => h) (Or.inl ⟨by rfl, fun w' hS' => ?_⟩) (by assumption) ?_
  rotate_left
  · (try dsimp only at hS'); go_simp; (try rw [if_pos (by omega)]); try with_reducible rfl
  try simp only [Act.put, List.getElem_toArray, List.getElem_cons_zero, List.getElem_cons_succ, List.setIfInBounds_toArray, List.set_cons_zero, List.set_cons_succ]
  refine wpAnyH_take (i := 1) (v := ?_) rfl (by kernel_rfl) (by kernel_rfl) (by kernel_rfl) (fun _ _ _ h => h) (Or.inl ⟨by rfl, fun w' hS' => ?_⟩) (by assumption) ?_
  rotate_left
  · (try dsimp only at hS'); go_simp; (try rw [if_pos (by omega)]); try with_reducible rfl
  try simp only [Act.put, List.getElem_toArray, List.getElem_cons_zero, List.getElem_cons_succ, List.setIfInBounds_toArray, List.set_cons_zero, List.set_cons_succ]
  refine wpAnyH_take (i := 2) (v := ?_) rfl (by kernel_rfl) (by kernel_rfl) (by kernel_rfl) (fun _ _ _ h => h) (Or.inl ⟨by rfl, fun w' hS' => ?_⟩) (by assumption) ?_
  rotate_left
  · (try dsimp only at hS'); go_simp; (try rw [if_pos (by omega)]); try with_reducible rfl
  try simp only [Act.put, List.getElem_toArray, List.getElem_cons_zero, List.getElem_cons_succ, List.setIfInBounds_toArray, List.set_cons_zero, List.set_cons_succ]
  refine wpAnyH_take (i := 3) (v := ?_) rfl (by kernel_rfl) (by kernel_rfl) (by kernel_rfl) (fun _ _ _ h => h) (Or.inl ⟨by rfl, fun w' hS' => ?_⟩) (by assumption) ?_
  rotate_left
  · (try dsimp only at hS'); go_simp; (try rw [if_pos (by omega)]); try with_reducible rfl
  try simp only [Act.put, List.getElem_toArray, List.getElem_cons_zero, List.getElem_cons_succ, List.setIfInBounds_toArray, List.set_cons_zero, List.set_cons_succ]
  refine wpAnyH_take (i := 4) (v := ?_) rfl (by kernel_rfl) (by kernel_rfl) (by kernel_rfl) (fun _ _ _ h => h) (Or.inl ⟨by rfl, fun w' hS' => ?_⟩) (by assumption) ?_
  rotate_left
  · (try dsimp only at hS'); go_simp; (try rw [if_pos (by omega)]); try with_reducible rfl
  try simp only [Act.put, List.getElem_toArray, List.getElem_cons_zero, List.getElem_cons_succ, List.setIfInBounds_toArray, List.set_cons_zero, List.set_cons_succ]
  refine wpAnyH_take (i := 5) (v := ?_) rfl (by kernel_rfl) (by kernel_rfl) (by kernel_rfl) (fun _ _ _ h => h) (Or.inl ⟨by rfl, fun w' hS' => ?_⟩) (by assumption) ?_
  rotate_left
  · (try dsimp only at hS'); go_simp; (try rw [if_pos (by omega)]); try with_reducible rfl
  try simp only [Act.put, List.getElem_toArray, List.getElem_cons_zero, List.getElem_cons_succ, List.setIfInBounds_toArray, List.set_cons_zero, List.set_cons_succ]
  refine wpAnyH_take (i := 7) (v := ?_) rfl (by kernel_rfl) (by kernel_rfl) (by kernel_rfl) (fun _ _ _ h => h) (Or.inl ⟨by rfl, fun w' hS' => ?_⟩) (by assumption) ?_
  rotate_left
  · (try dsimp only at hS'); go_simp; (try rw [if_pos (by omega)]); try with_reducible rfl
  try simp only [Act.put, List.getElem_toArray, List.getElem_cons_zero, List.getElem_cons_succ, List.setIfInBounds_toArray, List.set_cons_zero, List.set_cons_succ]
  try rw [hlw]
  refine wpAnyH_ready (rs := [6]) (by kernel_rfl) (by simp) ?_
  refine AllReadyH.cons rfl (fun K' hK => ?_) AllReadyH.nil
  refine if_yes (by rfl) ?_
  try simp only [Act.put, List.getElem_toArray, List.getElem_cons_zero, List.getElem_cons_succ, List.setIfInBounds_toArray, List.set_cons_zero, List.set_cons_succ]
  go_simp
  refine (spec_pick B g _ _ _ R.out (by omega)).mono ?_
  rintro e u1 ⟨y1, rfl, -, -, hr, hgw, -⟩
  have R := Lib.hid hr
  have V := Lib.hid (V.out.near hgw (by omega))
  have R0 := R0.near hgw (by omega)
  have P0 := P0.near hgw (by omega)
  have G := Lib.hid (grown_trans' G.out hgw)
  have qu1 := hgw.size
  clear hr hgw
  go_wp2_with fail
  refine hK.out _ _ ?_ (fun hHeld => ?_)
  · exact ⟨P0.cell0 rfl, P0.cell0 rfl⟩
  clear hK K'
  try simp only [Act.put, List.setIfInBounds_toArray, List.set_cons_zero, List.set_cons_succ]
  refine wpAnyH_ready (rs := [8]) (by kernel_rfl) (by simp) ?_
  refine AllReadyH.cons rfl (fun K' hK => ?_) AllReadyH.nil
  refine if_yes (by rfl) ?_
  try simp only [Act.put, List.getElem_toArray, List.getElem_cons_zero, List.getElem_cons_succ, List.setIfInBounds_toArray, List.set_cons_zero, List.set_cons_succ]
  go_simp
  refine (spec_pick B g _ 30 _ R.out (by omega)).mono ?_
  rintro e u2 ⟨y2, rfl, -, -, hr, hgw, -⟩
  have R := Lib.hid hr
  have V := Lib.hid (V.out.near hgw (by omega))
  have R0 := R0.near hgw (by omega)
  have P0 := P0.near hgw (by omega)
  have G := Lib.hid (grown_trans' G.out hgw)
  have qu2 := hgw.size
  clear hr hgw
  go_wp2_with fail
  refine hK.out _ _ ?_ (fun hHeld => ?_)
  · exact ⟨P0.cell0 rfl, P0.cell0 rfl⟩
  clear hK K'
  try simp only [Act.put, List.setIfInBounds_toArray, List.set_cons_zero, List.set_cons_succ]
  refine wpAnyH_take (i := 9) (v := ?_) rfl (by kernel_rfl) (by kernel_rfl) (by kernel_rfl) (fun _ _ _ h => h) (Or.inl ⟨by rfl, fun w' hS' => ?_⟩) (by assumption) ?_
  rotate_left
  · (try dsimp only at hS'); go_simp; (try rw [if_pos (by omega)]); try with_reducible rfl
  try simp only [Act.put, List.getElem_toArray, List.getElem_cons_zero, List.getElem_cons_succ, List.setIfInBounds_toArray, List.set_cons_zero, List.set_cons_succ]
  refine wpAnyH_take (i := 10) (v := ?_) rfl (by kernel_rfl) (by kernel_rfl) (by kernel_rfl) (fun _ _ _ h => h) (Or.inl ⟨by rfl, fun w' hS' => ?_⟩) (by assumption) ?_
  rotate_left
  · (try dsimp only at hS'); go_simp; (try rw [if_pos (by omega)]); try with_reducible rfl
  try simp only [Act.put, List.getElem_toArray, List.getElem_cons_zero, List.getElem_cons_succ, List.setIfInBounds_toArray, List.set_cons_zero, List.set_cons_succ]
  generalize IntKind.i64.wrap (y1 - IntKind.i64.wrap (y2.tdiv 29)) = kk
  obtain ⟨rc0, rz0⟩ := (R0).rules; have rl0 := (R0).lt
  refine wpAnyH_ready (rs := [11]) (by kernel_rfl) (by simp) ?_
  refine AllReadyH.cons rfl (fun K' hK => ?_) AllReadyH.nil
  refine if_yes (by rfl) ?_
  try simp only [Act.put, List.getElem_toArray, List.getElem_cons_zero, List.getElem_cons_succ, List.setIfInBounds_toArray, List.set_cons_zero, List.set_cons_succ]
  go_simp
  have PF := (P0.far (p := ⟨w.heap.size, 0, none⟩) (by dsimp only; omega) (.int .i64 p.pts)).far (p := ⟨w.heap.size, 1, none⟩) (by dsimp only; omega) (.slice av p.bs.length cv)
  have F0 := (R0.set 0 (.int .i64 p.pts)).set 1 (.slice av p.bs.length cv)
  have VF := (V.out.low (p := ⟨w.heap.size, 0, none⟩) (by dsimp only; omega) (.int .i64 p.pts)).low (p := ⟨w.heap.size, 1, none⟩) (by dsimp only; omega) (.slice av p.bs.length cv)
  have GF := grown_set' (k := w.heap.size) (i := 1) (grown_set' (k := w.heap.size) (i := 0) G.out (Nat.le_refl _) (.int .i64 p.pts)) (Nat.le_refl _) (.slice av p.bs.length cv)
  obtain ⟨wf, hwf⟩ : ∃ wf, Hid (wf = (u2.setCell ⟨w.heap.size, 0, none⟩ (.int .i64 p.pts)).setCell ⟨w.heap.size, 1, none⟩ (.slice av p.bs.length cv)) := ⟨_, rfl⟩
  rw [← hwf.out] at PF F0 VF GF ⊢
  have VF := Lib.hid VF
  have GF := Lib.hid GF
  refine hK.out _ _ ?_ (fun hHeld => ?_)
  · exact ⟨PF.cell0 rfl, PF.cell0 rfl⟩
  clear hK K' rc0 rz0 rl0
  try simp only [Act.put, List.setIfInBounds_toArray, List.set_cons_zero, List.set_cons_succ]
  refine wpAnyH_take (i := 12) (v := ?_) rfl (by kernel_rfl) (by kernel_rfl) (by kernel_rfl) (fun _ _ _ h => h) (Or.inl ⟨by rfl, fun w' hS' => ?_⟩) (by assumption) ?_
  rotate_left
  · (try dsimp only at hS'); go_simp; (try rw [if_pos (by omega)]); try with_reducible rfl
  try simp only [Act.put, List.getElem_toArray, List.getElem_cons_zero, List.getElem_cons_succ, List.setIfInBounds_toArray, List.set_cons_zero, List.set_cons_succ]
  refine wpAnyH_done (by kernel_rfl) ?_ _
  try simp only [Act.put, List.setIfInBounds_toArray, List.set_cons_zero, List.set_cons_succ]
  have F0 : Box wf w.heap.size 29 #[.int .i64 p.pts, .slice av p.bs.length cv] := F0
  obtain ⟨rc0, rz0⟩ := (F0).rules; have rl0 := (F0).lt
  go_wp2_with fail
  refine bodyPost_ret (v := .tuple #[.agg #[.int .i64 p.pts, .slice av p.bs.length cv], .int .i64 kk]) (by simp [results, Try.results41, go_sem, *]) rfl ?_
  exact ⟨_, p, kk, rfl, VF.out.base (by omega), hl, h0, h7, GF.out⟩
set_option maxHeartbeats 1000000 in
theorem spec_DrawNeedlessOk (a : Option Addr) (n cap : Nat) (w : World) (h : Byt w w.heap.size a n cap) : Calls Try.prog 14 #[.slice a n cap] w (RetDrawnN w) := by
  have H := Lib.hid h
  clear h
  go_enter Try.func14, Try.ntmps14
  go_wp2_with fail
  obtain ⟨W, hW, B0, hs, E⟩ := one_box w #[.int .i64 0, .slice none 0 0] 29
  rw [← hW.out]
  refine (spec_l20Open a n cap W w.heap.size (by omega) (H.out.below E)).mono ?_
  rintro e w1 ⟨rfl, hR, hb1⟩
  have E1 := ext_trans E hb1
  have B1 := B0.ext hb1
  have R := Lib.hid hR
  clear hR
  go_wp2_with fail
  refine (spec_l20Bounded w.heap.size W.heap.size 0 w1 R.out (by omega)).mono ?_
  rintro e w2 ⟨bs, p, k, rfl, hbs, hl, h0, h7, hg⟩
  have E2 := ext_grown E1 hg (fun k hk => by cases hk; omega)
  have B2 := B1.grown hg (fun e => by injection e with e; omega)
  have hz1 := hb1.size
  obtain ⟨av, cv, rfl, -⟩ := hbs.open
  have Hbs := Lib.hid hbs
  clear hbs hb1 hg B0 B1 E1
  obtain ⟨rc2, rz2⟩ := (B2).rules; have rl2 := (B2).lt
  go_wp2_with fail
  refine bodyPost_ret (v := .tuple #[.agg #[.int .i64 p.pts, .slice av p.bs.length cv], .int .i64 k]) (by simp [results, Try.results14, go_sem, *]) rfl ?_
  exact ⟨_, p, k, rfl, ((Hbs.out.low (by dsimp only; omega) _).low (by dsimp only; omega) _).base (by omega), hl, h0, h7, ext_set (ext_set E2 (Nat.le_refl _) _) (Nat.le_refl _) _⟩
end Go.Proofs.Ytpccfkbpnfbdaaa
