/- The draw of a plan: spec.l20Plan gives some plan of at most 10 bounds, of at most 7 points, in memory of its own. No condition but that the code's bytes can be read. -/
import Derived.Test.YtffcfambgcaikaaDraw
import Derived.Test.YtffcfambgcaikaaTail
import Derived.Deep.DeepCutAuto
namespace Go.Proofs.Ytffcfambgcaikaa
open Go.RowKit
set_option linter.unusedVariables false
set_option linter.unusedSimpArgs false
/-- What stands while a plan is drawn: the reader at g, the result's cell, the plan's cell at gp with P points and the bounds bl, the times tl. -/
structure DS (w0 : World) (B g gp P : Nat) (b2 tb : Nat) (v : Value) (bl : List Bd) (tv : Value) (tl : List Int) (m : Nat) (wx : World) : Prop where
  rd : Rd wx B g m
  gr : w0.grownBy wx (some g)
  b0 : Box wx w0.heap.size 25 #[.int .i64 0, .slice none 0 0]
  b1 : Box wx gp 25 #[.int .i64 P, v]
  bd : Bds wx b2 v bl
  ti : Ints wx tb tv tl
  o1 : g < w0.heap.size
  o2 : w0.heap.size < gp
  o3 : gp < tb
  o4 : tb ≤ b2
  o5 : ∀ k, tv.ownBlock = some k → k < b2
  o6 : b2 ≤ wx.heap.size
section
variable {w0 wx w' : World} {B g gp P b2 tb m m' : Nat} {v tv : Value} {bl : List Bd} {tl : List Int}
theorem DS.pick (h : DS w0 B g gp P b2 tb v bl tv tl m wx) (hg : wx.grownBy w' (some g)) (hr : Rd w' B g m') : DS w0 B g gp P b2 tb v bl tv tl m' w' := by
  have := h.o1; have := h.o2; have := h.o3; have := h.o4
  exact ⟨hr, grown_trans' h.gr hg, h.b0.near hg h.o1, h.b1.near hg (by omega), h.bd.near hg (by omega), h.ti.near hg (by omega), h.o1, h.o2, h.o3, h.o4, h.o5, Nat.le_trans h.o6 hg.size⟩
theorem DS.ext (h : DS w0 B g gp P b2 tb v bl tv tl m wx) (hb : Below wx.heap.size wx w') : DS w0 B g gp P b2 tb v bl tv tl m w' :=
  ⟨h.rd.ext hb, grown_ext' h.gr hb, h.b0.ext hb, h.b1.ext hb, h.bd.ext hb, h.ti.ext hb, h.o1, h.o2, h.o3, h.o4, h.o5, Nat.le_trans h.o6 hb.size⟩
theorem DS.mono (h : DS w0 B g gp P b2 tb v bl tv tl m wx) (hm : m ≤ m') : DS w0 B g gp P b2 tb v bl tv tl m' wx := { h with rd := h.rd.mono hm }
/-- a store into a cell that is none of these -/
theorem DS.high (h : DS w0 B g gp P b2 tb v bl tv tl m wx) {k i : Nat} (hp : b2 ≤ k) (hv : ∀ j, v.ownBlock = some j → j ≠ k) (u : Value) : DS w0 B g gp P b2 tb v bl tv tl m (wx.setCell ⟨k, i, none⟩ u) := by
  have h1 := h.o1; have h2 := h.o2; have h3 := h.o3; have h4 := h.o4; have := h.rd.lt
  have hs := grown_one wx k i u
  refine ⟨h.rd.set (by dsimp only; omega) (by dsimp only; omega) u, grown_set' h.gr (by omega) u, h.b0.far (by dsimp only; omega) u, h.b1.far (by dsimp only; omega) u, ?_, ?_, h1, h2, h3, h4, h.o5, by simpa [World.setCell] using h.o6⟩
  · exact own_far h.bd hs fun j hj e => by cases e; exact hv _ hj rfl
  · exact own_high h.ti h.o5 (by dsimp only; omega) u
/-- an append to the bounds, and the store of the row it gave -/
theorem DS.grow (h : DS w0 B g gp P b2 tb v bl tv tl m wx) {o : Obj} {wz : World} (hg : (wx.alloc o).grownBy wz v.ownBlock) {v' : Value} {bl' : List Bd} (hv : Bds wz b2 v' bl') :
    DS w0 B g gp P b2 tb v' bl' tv tl m (wz.setCell ⟨gp, 1, none⟩ v') := by
  have h1 := h.o1; have h2 := h.o2; have h3 := h.o3; have h4 := h.o4; have h5 := h.rd.lt; have h6 := h.o6; have h7 := h.gr.size
  have lt := h.bd.lt
  have hz := hg.size
  simp only [World.size_alloc] at hz
  refine ⟨((h.rd.alloc o).grown hg (fun e => by have := lt _ e.symm; omega) (fun k hk => by have := lt k hk; omega)).set (by dsimp only; omega) (by dsimp only; omega) v',
    grown_set' (grown_high (grown_alloc' h.gr o) hg (fun k hk => by have := lt k hk; omega)) (by omega) v',
    ((h.b0.alloc o).grown hg (fun e => by have := lt _ e.symm; omega)).far (by dsimp only; omega) v',
    ((h.b1.alloc o).grown hg (fun e => by have := lt _ e.symm; omega)).set 1 v',
    hv.low (by dsimp only; omega) v',
    ((h.ti.alloc o).far hg (fun k hk e => by have := lt k e; have := h.o5 k hk; omega)).low (by dsimp only; omega) v', h1, h2, h3, h4, h.o5, by simp [World.setCell]; omega⟩
/-- a store into the plan's points -/
theorem DS.putP (h : DS w0 B g gp P b2 tb v bl tv tl m wx) (P' : Nat) : DS w0 B g gp P' b2 tb v bl tv tl m (wx.setCell ⟨gp, 0, none⟩ (.int .i64 P')) := by
  have h1 := h.o1; have h2 := h.o2; have h3 := h.o3; have h4 := h.o4; have h5 := h.rd.lt; have h6 := h.o6; have h7 := h.gr.size
  exact ⟨h.rd.set (by dsimp only; omega) (by dsimp only; omega) _, grown_set' h.gr (by omega) _, h.b0.far (by dsimp only; omega) _, h.b1.set 0 _, h.bd.low (by dsimp only; omega) _, h.ti.low (by dsimp only; omega) _,
    h1, h2, h3, h4, h.o5, by simpa [World.setCell] using h6⟩
/-- the result -/
theorem DS.done (h : DS w0 B g gp P b2 tb v bl tv tl m wx) (hl : bl.length ≤ 10) (hP : P ≤ 7) (hm : m ≤ m') (x y : Value) (i k : Nat) :
    ∃ (bs : Value) (p : Pl), Ending.returned (.agg #[.int .i64 P, v]) = .returned (.agg #[.int .i64 p.pts, bs]) ∧ Bds ((wx.setCell ⟨w0.heap.size, i, none⟩ x).setCell ⟨w0.heap.size, k, none⟩ y) w0.heap.size bs p.bs ∧ p.bs.length ≤ 10 ∧ 0 ≤ p.pts ∧ p.pts ≤ 7 ∧
      Rd ((wx.setCell ⟨w0.heap.size, i, none⟩ x).setCell ⟨w0.heap.size, k, none⟩ y) B g m' ∧ w0.grownBy ((wx.setCell ⟨w0.heap.size, i, none⟩ x).setCell ⟨w0.heap.size, k, none⟩ y) (some g) := by
  have h1 := h.o1; have h2 := h.o2; have h3 := h.o3; have h4 := h.o4; have h5 := h.rd.lt
  exact ⟨v, ⟨P, bl⟩, rfl, ((h.bd.low (by dsimp only; omega) _).low (by dsimp only; omega) _).base (by omega), hl, Int.natCast_nonneg _, by dsimp only; omega,
    ((h.rd.set (by dsimp only; omega) (by dsimp only; omega) _).set (by dsimp only; omega) (by dsimp only; omega) _).mono hm, grown_set' (grown_set' h.gr (Nat.le_refl _) _) (Nat.le_refl _) _⟩
end
set_option maxRecDepth 100000 in
set_option maxHeartbeats 4000000 in
theorem spec_l20Plan (B g m : Nat) (n : Int) (w : World) (h : Rd w B g m) (hm : m ≤ 100000) (hn : 0 ≤ n) :
    Calls Try.prog 93 #[.pointer (some ⟨g, 0, none⟩), .int .i64 n] w fun e w' => ∃ (bs : Value) (p : Pl), e = .returned (.agg #[.int .i64 p.pts, bs]) ∧ Bds w' w.heap.size bs p.bs ∧ p.bs.length ≤ 10 ∧ 0 ≤ p.pts ∧ p.pts ≤ 7 ∧ Rd w' B g (m+200) ∧ w.grownBy w' (some g) := by
  have R := Lib.hid h
  have hg := h.lt
  clear h
  go_enter Try.func93, Try.ntmps93
  go_wp2_with fail
  obtain ⟨W, hW, B0, hs, E⟩ := one_box w #[.int .i64 0, .slice none 0 0] 25
  rw [← hW.out]
  have R := Lib.hid (R.out.ext E)
  have G := Lib.hid (grown_of_ext (some g) E)
  clear E
  refine (spec_pick B g _ 5 _ R.out (by omega)).mono ?_
  rintro e w1 ⟨x1, rfl, hx1, hy1, r1, g1, -⟩
  have R := Lib.hid r1
  have G := Lib.hid (grown_trans' G.out g1)
  have B0 := B0.near g1 (by omega)
  have q1 := g1.size
  clear r1 g1
  go_wp2_with fail
  refine (spec_pick B g _ 20 _ R.out (by omega)).mono ?_
  rintro e w2 ⟨x2, rfl, hx2, hy2, r2, g2, -⟩
  have R := Lib.hid r2
  have G := Lib.hid (grown_trans' G.out g2)
  have B0 := B0.near g2 (by omega)
  have q2 := g2.size
  clear r2 g2
  go_wp2_with fail
  obtain ⟨P, hP⟩ := Int.eq_ofNat_of_zero_le (show 0 ≤ 1 + x1 + x2 / 19 by omega)
  have hP1 : 1 ≤ P ∧ P ≤ 6 := by omega
  rw [hP]
  obtain ⟨W3, hW3, B1, T3, hs3, E3⟩ := two_boxes w2 #[.int .i64 P, .slice none 0 0] #[] 25 3
  rw [← hW3.out]
  have R := Lib.hid (R.out.ext E3)
  have g2 := G.out.size
  have G := Lib.hid (grown_ext' G.out E3)
  have B0 := B0.ext E3
  have V := Lib.hid (Ints.ofBox T3 (Nat.le_refl _))
  clear hP hx1 hy1 hx2 hy2 E3 T3
  go_loopg [6, 7] P (fun z v k wr => ∃ (j : Nat) (l : List Int), j ≤ P ∧ z = P - j ∧ k = .int .i64 j ∧ Hid (Ints wr (w2.heap.size + 1) v l) ∧ Hid (l.length = j) ∧ Box wr w2.heap.size 25 #[.int .i64 P, .slice none 0 0] ∧
    Box wr w.heap.size 25 #[.int .i64 0, .slice none 0 0] ∧ Hid (Rd wr B g (m + 2 + 2 * j)) ∧ Hid (w.grownBy wr (some g)) ∧ w2.heap.size + 2 ≤ wr.heap.size)
  case atStart => exact ⟨0, [], by omega, by omega, rfl, V, Lib.hid rfl, B1, B0, R, G, hs3⟩
  case round =>
    obtain ⟨j, l, hj, hgk, rfl, V, hl, B1, B0, R, G, hsz⟩ := hrel
    have Hk := Lib.hid hgk
    clear hgk
    obtain ⟨av, capv, rfl, -⟩ := V.out.open
    obtain ⟨rc1, rz1⟩ := (B1).rules; have rl1 := (B1).lt
    by_cases hlt : j < P
    · go_wp2_with fail
      refine (spec_pick B g _ 30 _ R.out (by omega)).mono ?_
      rintro e w3 ⟨x3, rfl, hx3, hy3, r3, g3, -⟩
      have R := Lib.hid r3
      have G := Lib.hid (grown_trans' G.out g3)
      have B0 := B0.near g3 (by omega)
      have B1 := B1.near g3 (by omega)
      have V := Lib.hid (V.out.near g3 (by omega))
      have q3 := g3.size
      clear r3 g3
      go_wp2_with fail
      refine (spec_pick B g _ 10 _ R.out (by omega)).mono ?_
      rintro e w4 ⟨x4, rfl, hx4, hy4, r4, g4, -⟩
      have R := Lib.hid r4
      have G := Lib.hid (grown_trans' G.out g4)
      have B0 := B0.near g4 (by omega)
      have B1 := B1.near g4 (by omega)
      have V := Lib.hid (V.out.near g4 (by omega))
      have q4 := g4.size
      clear r4 g4
      go_wp2_with (at_builtin; refine wpl_appI _ rfl (.tmp 26) (.tmp 32) rfl (w2.heap.size + 1) _ (.slice av l.length capv) l rfl (V.out.alloc _) _ [x3 - x4] rfl (Ints.lit _ _) (by have := hl.out; simp; omega) (by simp; have := G.out.size; omega) ?_; intro v' w5 hv' hg')
      have hz := hg'.size
      simp only [World.size_alloc] at hz
      have R := Lib.hid ((R.out.alloc _).grown hg' (fun e => by have := V.out.lt _ e.symm; omega) (fun k hk => by have := V.out.lt k hk; omega))
      have G := Lib.hid (grown_high (grown_alloc' G.out _) hg' (fun k hk => by have := V.out.lt k hk; omega))
      have B0 := (B0.alloc _).grown hg' (fun e => by have := V.out.lt _ e.symm; omega)
      have B1 := (B1.alloc _).grown hg' (fun e => by have := V.out.lt _ e.symm; omega)
      go_roundg (P - (j+1))
      case rel => exact ⟨j+1, l ++ [x3 - x4], by omega, rfl, by go_num, Lib.hid hv', Lib.hid (by have := hl.out; simp; omega), B1, B0, Lib.hid (R.out.mono (by omega)), G, by omega⟩
      case measure => have := Hk.out; omega
    · obtain rfl : j = P := by omega
      go_wp2_with fail
      refine (spec_pick B g _ 4 _ R.out (by omega)).mono ?_
      rintro e w5 ⟨x5, rfl, hx5, hy5, r5, g5, -⟩
      have R := Lib.hid r5
      have G := Lib.hid (grown_trans' G.out g5)
      have B0 := B0.near g5 (by omega)
      have B1 := B1.near g5 (by omega)
      have V := Lib.hid (V.out.near g5 (by omega))
      have q5 := g5.size
      clear r5 g5
      go_wp2_with fail
      refine (spec_pick B g _ 9 _ R.out (by omega)).mono ?_
      rintro e w6 ⟨x6, rfl, hx6, hy6, r6, g6, -⟩
      have R := Lib.hid r6
      have G := Lib.hid (grown_trans' G.out g6)
      have B0 := B0.near g6 (by omega)
      have B1 := B1.near g6 (by omega)
      have V := Lib.hid (V.out.near g6 (by omega))
      have q6 := g6.size
      clear r6 g6
      go_wp2_with fail
      obtain ⟨K, rfl⟩ := Int.eq_ofNat_of_zero_le hx6
      have hK8 : K ≤ 8 := by omega
      have D : Hid (DS w B g w2.heap.size j w6.heap.size (w2.heap.size + 1) (.slice none 0 0) [] (.slice av l.length capv) l (m + 10 + 2 * j) w6) :=
        ⟨R.out.mono (by omega), G.out, B0, B1, Bds.nil _ _, V.out, hg.2, by omega, by omega, by omega, fun k hk => (V.out.lt k hk).2, Nat.le_refl _⟩
      have hw6 := G.out.size
      clear hy6 hx6 R G B0 B1 V rc1 rz1 rl1
      go_loopg [9] K (fun z kk wr => ∃ (i : Nat) (v : Value) (bl : List Bd), i ≤ 8 ∧ z = i ∧ kk = .int .i64 i ∧ Hid (bl.length + i ≤ 8) ∧ Hid (DS w B g w2.heap.size j w6.heap.size (w2.heap.size + 1) v bl (.slice av l.length capv) l (m + 10 + 2 * j + 6 * (8 - i)) wr))
      case atStart => exact ⟨K, _, [], hK8, rfl, rfl, Lib.hid (by simp; omega), Lib.hid (D.out.mono (by omega))⟩
      case round =>
        obtain ⟨i, v, bl, hi, hgk, rfl, hbl, D⟩ := hrel
        have Hk := Lib.hid hgk
        clear hgk
        obtain ⟨bv, bcap, rfl, -⟩ := D.out.bd.open
        obtain ⟨rc1, rz1⟩ := (D.out.b1).rules; have rl1 := (D.out.b1).lt
        have hwr := D.out.gr.size
        have hwb := D.out.o6
        have Bbd := Lib.hid D.out.bd.lt
        by_cases hlt : 0 < i
        · go_upto_region 11 with fail
          go_cut [10] (fun v10 wx => ∃ (gb : Nat) (f t : Int), v10 = .pointer (some ⟨gb, 0, none⟩) ∧ Box wx gb 78 #[.int .i64 f, .int .i64 t, .int .i64 0] ∧ 0 ≤ f ∧ f < j ∧ 0 ≤ t ∧ t < j ∧ wr.heap.size ≤ gb ∧
            Hid (DS w B g w2.heap.size j w6.heap.size (w2.heap.size + 1) (.slice bv bl.length bcap) bl (.slice av l.length capv) l (m + 10 + 2 * j + 6 * (8 - i) + 1 + 1) wx))
          case first =>
            refine wp_region_tail 10 (by kernel_rfl) (by kernel_rfl) (fun w' => w'.cell? ⟨w2.heap.size, 0, none⟩ = some (Value.int .i64 j)) ?_ ?_
            · exact D.out.b1.cell0 rfl
            intro hHeld
            have D := Lib.hid (D.out.ext (ext_drew (ext_refl wr)))
            obtain ⟨d, hd⟩ : ∃ d, Hid (d = wr.drew) := ⟨_, rfl⟩
            have qd : wr.heap.size ≤ d.heap.size := by rw [hd.out]; exact Nat.le_refl _
            rw [← hd.out] at D hHeld ⊢
            simp only [List.pop_toArray, List.dropLast]
            refine wpAnyH_take (i := 0) (v := ?_) rfl (by kernel_rfl) (by kernel_rfl) (by kernel_rfl) (fun _ _ _ h => h) (Or.inl ⟨by rfl, fun w' hS' => ?_⟩) (by assumption) ?_
            rotate_left
            · (try dsimp only at hS'); go_simp; (try rw [if_pos (by omega)]); try with_reducible rfl
            try simp only [Act.put, List.getElem_toArray, List.getElem_cons_zero, List.getElem_cons_succ, List.setIfInBounds_toArray, List.set_cons_zero, List.set_cons_succ]
            refine wpAnyH_take (i := 1) (v := ?_) rfl (by kernel_rfl) (by kernel_rfl) (by kernel_rfl) (fun _ _ _ h => h) (Or.inl ⟨by rfl, fun w' hS' => ?_⟩) (by assumption) ?_
            rotate_left
            · (try dsimp only at hS'); go_simp; (try rw [if_pos (by omega)]); try with_reducible rfl
            try simp only [Act.put, List.getElem_toArray, List.getElem_cons_zero, List.getElem_cons_succ, List.setIfInBounds_toArray, List.set_cons_zero, List.set_cons_succ]
            refine wpAnyH_take (i := 2) (v := ?_) rfl (by kernel_rfl) (by kernel_rfl) (by kernel_rfl) (fun _ _ _ h => h) (Or.inl ⟨by rfl, fun w' hS' => ?_⟩) (by assumption) ?_
            rotate_left
            · (try dsimp only at hS'); go_simp; (try rw [if_pos (by omega)]); try with_reducible rfl
            try simp only [Act.put, List.getElem_toArray, List.getElem_cons_zero, List.getElem_cons_succ, List.setIfInBounds_toArray, List.set_cons_zero, List.set_cons_succ]
            refine wpAnyH_take (i := 4) (v := ?_) rfl (by kernel_rfl) (by kernel_rfl) (by kernel_rfl) (fun _ _ _ h => h) (Or.inl ⟨by rfl, fun w' hS' => ?_⟩) (by assumption) ?_
            rotate_left
            · (try dsimp only at hS'); go_simp; (try rw [if_pos (by omega)]); try with_reducible rfl
            try simp only [Act.put, List.getElem_toArray, List.getElem_cons_zero, List.getElem_cons_succ, List.setIfInBounds_toArray, List.set_cons_zero, List.set_cons_succ]
            refine wpAnyH_take (i := 5) (v := ?_) rfl (by kernel_rfl) (by kernel_rfl) (by kernel_rfl) (fun _ _ _ h => h) (Or.inl ⟨by rfl, fun w' hS' => ?_⟩) (by assumption) ?_
            rotate_left
            · (try dsimp only at hS'); go_simp; (try rw [if_pos (by omega)]); try with_reducible rfl
            try simp only [Act.put, List.getElem_toArray, List.getElem_cons_zero, List.getElem_cons_succ, List.setIfInBounds_toArray, List.set_cons_zero, List.set_cons_succ]
            refine wpAnyH_take (i := 6) (v := ?_) rfl (by kernel_rfl) (by kernel_rfl) (by kernel_rfl) (fun _ _ _ h => h) (Or.inl ⟨by rfl, fun w' hS' => ?_⟩) (by assumption) ?_
            rotate_left
            · (try dsimp only at hS'); go_simp; (try rw [if_pos (by omega)]); try with_reducible rfl
            try simp only [Act.put, List.getElem_toArray, List.getElem_cons_zero, List.getElem_cons_succ, List.setIfInBounds_toArray, List.set_cons_zero, List.set_cons_succ]
            refine wpAnyH_ready (rs := [3, 9]) (by kernel_rfl) (by simp) ?_
            refine AllReadyH.cons rfl (fun K' hK => ?_) (AllReadyH.cons rfl (fun K' hK => ?_) AllReadyH.nil)
            · refine if_yes (by rfl) ?_
              try simp only [Act.put, List.setIfInBounds_toArray, List.set_cons_zero, List.set_cons_succ]
              go_simp
              refine (spec_pick B g _ j _ D.out.rd (by omega)).mono ?_
              rintro e u1x ⟨y1, rfl, hy1, hz1, hr, hgw, -⟩
              have D := Lib.hid (D.out.pick hgw hr)
              have qu1x := hgw.size
              clear hr hgw
              go_wp2_with fail
              refine hK.out _ _ ?_ (fun hHeld => ?_)
              · exact D.out.b1.cell0 rfl
              clear hK K'
              try simp only [Act.put, List.setIfInBounds_toArray, List.set_cons_zero, List.set_cons_succ]
              refine wpAnyH_ready (rs := [7, 9]) (by kernel_rfl) (by simp) ?_
              refine AllReadyH.cons rfl (fun K' hK => ?_) (AllReadyH.cons rfl (fun K' hK => ?_) AllReadyH.nil)
              · refine if_yes (by rfl) ?_
                try simp only [Act.put, List.setIfInBounds_toArray, List.set_cons_zero, List.set_cons_succ]
                go_simp
                refine (spec_pick B g _ j _ D.out.rd (by omega)).mono ?_
                rintro e u2x ⟨y2, rfl, hy2, hz2, hr, hgw, -⟩
                have D := Lib.hid (D.out.pick hgw hr)
                have qu2x := hgw.size
                clear hr hgw
                go_wp2_with fail
                refine hK.out _ _ ?_ (fun hHeld => ?_)
                · exact D.out.b1.cell0 rfl
                clear hK K'
                try simp only [Act.put, List.setIfInBounds_toArray, List.set_cons_zero, List.set_cons_succ]
                refine wpAnyH_take (i := 8) (v := ?_) rfl (by kernel_rfl) (by kernel_rfl) (by kernel_rfl) (fun _ _ _ h => h) (Or.inl ⟨by rfl, fun w' hS' => ?_⟩) (by assumption) ?_
                rotate_left
                · (try dsimp only at hS'); go_simp; (try rw [if_pos (by omega)]); try with_reducible rfl
                try simp only [Act.put, List.getElem_toArray, List.getElem_cons_zero, List.getElem_cons_succ, List.setIfInBounds_toArray, List.set_cons_zero, List.set_cons_succ]
                refine wpAnyH_ready (rs := [9]) (by kernel_rfl) (by simp) ?_
                refine AllReadyH.cons rfl (fun K' hK => ?_) AllReadyH.nil
                refine if_yes (by rfl) ?_
                try simp only [Act.put, List.setIfInBounds_toArray, List.set_cons_zero, List.set_cons_succ]
                go_simp
                have Bo := Box.new u2x 78 #[.int .i64 0, .int .i64 0, .int .i64 0]
                have hgo : w.heap.size ≤ u2x.heap.size := D.out.gr.size
                have hgb : wr.heap.size ≤ u2x.heap.size := by omega
                have D := Lib.hid (D.out.ext (ext_alloc (ext_refl u2x) (.cells #[.int .i64 0, .int .i64 0, .int .i64 0] 78)))
                obtain ⟨u3x, hu3x⟩ : ∃ u3x, Hid (u3x = u2x.alloc (.cells #[.int .i64 0, .int .i64 0, .int .i64 0] 78)) := ⟨_, rfl⟩
                have qu3x : u2x.heap.size < u3x.heap.size := by rw [hu3x.out]; simp
                rw [← hu3x.out] at Bo D ⊢
                refine hK.out _ _ ?_ (fun hHeld => ?_)
                · exact D.out.b1.cell0 rfl
                clear hK K'
                try simp only [Act.put, List.setIfInBounds_toArray, List.set_cons_zero, List.set_cons_succ]
                obtain ⟨rco, rzo⟩ := (Bo).rules; have rlo := (Bo).lt
                refine wpAnyH_done (by kernel_rfl) ?_ _
                refine tail_step rfl (fun K' hK => ?_)
                refine if_yes (by rfl) ?_
                try simp only [Act.put, List.getElem_toArray, List.getElem_cons_zero, List.getElem_cons_succ, List.setIfInBounds_toArray, List.set_cons_zero, List.set_cons_succ]
                go_simp
                refine hK _ _ ?_
                clear hK K'
                try simp only [Act.put, List.getElem_toArray, List.getElem_cons_zero, List.getElem_cons_succ, List.setIfInBounds_toArray, List.set_cons_zero, List.set_cons_succ]
                go_wp2_with fail
                go_meet
                have Bf := ((Bo.set 0 (.int .i64 y1)).set 1 (.int .i64 y2)).set 2 (.int .i64 0)
                have D := Lib.hid (((D.out.high (k := u2x.heap.size) (i := 0) (by omega) (fun k hk => by have := Bbd.out k hk; omega) (.int .i64 y1)).high (k := u2x.heap.size) (i := 1) (by omega) (fun k hk => by have := Bbd.out k hk; omega) (.int .i64 y2)).high (k := u2x.heap.size) (i := 2) (by omega) (fun k hk => by have := Bbd.out k hk; omega) (.int .i64 0))
                exact ⟨_, y1, y2, rfl, Bf, hy1, by omega, hy2, by omega, hgb, D⟩
              · refine if_yes (by rfl) ?_
                try simp only [Act.put, List.setIfInBounds_toArray, List.set_cons_zero, List.set_cons_succ]
                go_simp
                have Bo := Box.new u1x 78 #[.int .i64 0, .int .i64 0, .int .i64 0]
                have hgo : w.heap.size ≤ u1x.heap.size := D.out.gr.size
                have hgb : wr.heap.size ≤ u1x.heap.size := by omega
                have D := Lib.hid (D.out.ext (ext_alloc (ext_refl u1x) (.cells #[.int .i64 0, .int .i64 0, .int .i64 0] 78)))
                obtain ⟨u4x, hu4x⟩ : ∃ u4x, Hid (u4x = u1x.alloc (.cells #[.int .i64 0, .int .i64 0, .int .i64 0] 78)) := ⟨_, rfl⟩
                have qu4x : u1x.heap.size < u4x.heap.size := by rw [hu4x.out]; simp
                rw [← hu4x.out] at Bo D ⊢
                refine hK.out _ _ ?_ (fun hHeld => ?_)
                · exact D.out.b1.cell0 rfl
                clear hK K'
                try simp only [Act.put, List.setIfInBounds_toArray, List.set_cons_zero, List.set_cons_succ]
                refine wpAnyH_ready (rs := [7]) (by kernel_rfl) (by simp) ?_
                refine AllReadyH.cons rfl (fun K' hK => ?_) AllReadyH.nil
                refine if_yes (by rfl) ?_
                try simp only [Act.put, List.setIfInBounds_toArray, List.set_cons_zero, List.set_cons_succ]
                go_simp
                refine (spec_pick B g _ j _ D.out.rd (by omega)).mono ?_
                rintro e u5x ⟨y2, rfl, hy2, hz2, hr, hgw, -⟩
                have D := Lib.hid (D.out.pick hgw hr)
                have qu5x := hgw.size
                have Bo := Bo.near hgw (by omega)
                clear hr hgw
                go_wp2_with fail
                refine hK.out _ _ ?_ (fun hHeld => ?_)
                · exact D.out.b1.cell0 rfl
                clear hK K'
                try simp only [Act.put, List.setIfInBounds_toArray, List.set_cons_zero, List.set_cons_succ]
                refine wpAnyH_take (i := 8) (v := ?_) rfl (by kernel_rfl) (by kernel_rfl) (by kernel_rfl) (fun _ _ _ h => h) (Or.inl ⟨by rfl, fun w' hS' => ?_⟩) (by assumption) ?_
                rotate_left
                · (try dsimp only at hS'); go_simp; (try rw [if_pos (by omega)]); try with_reducible rfl
                try simp only [Act.put, List.getElem_toArray, List.getElem_cons_zero, List.getElem_cons_succ, List.setIfInBounds_toArray, List.set_cons_zero, List.set_cons_succ]
                obtain ⟨rco, rzo⟩ := (Bo).rules; have rlo := (Bo).lt
                refine wpAnyH_done (by kernel_rfl) ?_ _
                refine tail_step rfl (fun K' hK => ?_)
                refine if_yes (by rfl) ?_
                try simp only [Act.put, List.getElem_toArray, List.getElem_cons_zero, List.getElem_cons_succ, List.setIfInBounds_toArray, List.set_cons_zero, List.set_cons_succ]
                go_simp
                refine hK _ _ ?_
                clear hK K'
                try simp only [Act.put, List.getElem_toArray, List.getElem_cons_zero, List.getElem_cons_succ, List.setIfInBounds_toArray, List.set_cons_zero, List.set_cons_succ]
                go_wp2_with fail
                go_meet
                have Bf := ((Bo.set 0 (.int .i64 y1)).set 1 (.int .i64 y2)).set 2 (.int .i64 0)
                have D := Lib.hid (((D.out.high (k := u1x.heap.size) (i := 0) (by omega) (fun k hk => by have := Bbd.out k hk; omega) (.int .i64 y1)).high (k := u1x.heap.size) (i := 1) (by omega) (fun k hk => by have := Bbd.out k hk; omega) (.int .i64 y2)).high (k := u1x.heap.size) (i := 2) (by omega) (fun k hk => by have := Bbd.out k hk; omega) (.int .i64 0))
                exact ⟨_, y1, y2, rfl, Bf, hy1, by omega, hy2, by omega, hgb, D⟩
            · refine if_yes (by rfl) ?_
              try simp only [Act.put, List.setIfInBounds_toArray, List.set_cons_zero, List.set_cons_succ]
              go_simp
              have Bo := Box.new d 78 #[.int .i64 0, .int .i64 0, .int .i64 0]
              have hgo : w.heap.size ≤ d.heap.size := D.out.gr.size
              have hgb : wr.heap.size ≤ d.heap.size := by omega
              have D := Lib.hid (D.out.ext (ext_alloc (ext_refl d) (.cells #[.int .i64 0, .int .i64 0, .int .i64 0] 78)))
              obtain ⟨u6x, hu6x⟩ : ∃ u6x, Hid (u6x = d.alloc (.cells #[.int .i64 0, .int .i64 0, .int .i64 0] 78)) := ⟨_, rfl⟩
              have qu6x : d.heap.size < u6x.heap.size := by rw [hu6x.out]; simp
              rw [← hu6x.out] at Bo D ⊢
              refine hK.out _ _ ?_ (fun hHeld => ?_)
              · exact D.out.b1.cell0 rfl
              clear hK K'
              try simp only [Act.put, List.setIfInBounds_toArray, List.set_cons_zero, List.set_cons_succ]
              refine wpAnyH_ready (rs := [3]) (by kernel_rfl) (by simp) ?_
              refine AllReadyH.cons rfl (fun K' hK => ?_) AllReadyH.nil
              refine if_yes (by rfl) ?_
              try simp only [Act.put, List.setIfInBounds_toArray, List.set_cons_zero, List.set_cons_succ]
              go_simp
              refine (spec_pick B g _ j _ D.out.rd (by omega)).mono ?_
              rintro e u7x ⟨y1, rfl, hy1, hz1, hr, hgw, -⟩
              have D := Lib.hid (D.out.pick hgw hr)
              have qu7x := hgw.size
              have Bo := Bo.near hgw (by omega)
              clear hr hgw
              go_wp2_with fail
              refine hK.out _ _ ?_ (fun hHeld => ?_)
              · exact D.out.b1.cell0 rfl
              clear hK K'
              try simp only [Act.put, List.setIfInBounds_toArray, List.set_cons_zero, List.set_cons_succ]
              refine wpAnyH_ready (rs := [7]) (by kernel_rfl) (by simp) ?_
              refine AllReadyH.cons rfl (fun K' hK => ?_) AllReadyH.nil
              refine if_yes (by rfl) ?_
              try simp only [Act.put, List.setIfInBounds_toArray, List.set_cons_zero, List.set_cons_succ]
              go_simp
              refine (spec_pick B g _ j _ D.out.rd (by omega)).mono ?_
              rintro e u8x ⟨y2, rfl, hy2, hz2, hr, hgw, -⟩
              have D := Lib.hid (D.out.pick hgw hr)
              have qu8x := hgw.size
              have Bo := Bo.near hgw (by omega)
              clear hr hgw
              go_wp2_with fail
              refine hK.out _ _ ?_ (fun hHeld => ?_)
              · exact D.out.b1.cell0 rfl
              clear hK K'
              try simp only [Act.put, List.setIfInBounds_toArray, List.set_cons_zero, List.set_cons_succ]
              refine wpAnyH_take (i := 8) (v := ?_) rfl (by kernel_rfl) (by kernel_rfl) (by kernel_rfl) (fun _ _ _ h => h) (Or.inl ⟨by rfl, fun w' hS' => ?_⟩) (by assumption) ?_
              rotate_left
              · (try dsimp only at hS'); go_simp; (try rw [if_pos (by omega)]); try with_reducible rfl
              try simp only [Act.put, List.getElem_toArray, List.getElem_cons_zero, List.getElem_cons_succ, List.setIfInBounds_toArray, List.set_cons_zero, List.set_cons_succ]
              obtain ⟨rco, rzo⟩ := (Bo).rules; have rlo := (Bo).lt
              refine wpAnyH_done (by kernel_rfl) ?_ _
              refine tail_step rfl (fun K' hK => ?_)
              refine if_yes (by rfl) ?_
              try simp only [Act.put, List.getElem_toArray, List.getElem_cons_zero, List.getElem_cons_succ, List.setIfInBounds_toArray, List.set_cons_zero, List.set_cons_succ]
              go_simp
              refine hK _ _ ?_
              clear hK K'
              try simp only [Act.put, List.getElem_toArray, List.getElem_cons_zero, List.getElem_cons_succ, List.setIfInBounds_toArray, List.set_cons_zero, List.set_cons_succ]
              go_wp2_with fail
              go_meet
              have Bf := ((Bo.set 0 (.int .i64 y1)).set 1 (.int .i64 y2)).set 2 (.int .i64 0)
              have D := Lib.hid (((D.out.high (k := d.heap.size) (i := 0) (by omega) (fun k hk => by have := Bbd.out k hk; omega) (.int .i64 y1)).high (k := d.heap.size) (i := 1) (by omega) (fun k hk => by have := Bbd.out k hk; omega) (.int .i64 y2)).high (k := d.heap.size) (i := 2) (by omega) (fun k hk => by have := Bbd.out k hk; omega) (.int .i64 0))
              exact ⟨_, y1, y2, rfl, Bf, hy1, by omega, hy2, by omega, hgb, D⟩
          rename World => w11
          obtain ⟨gb, f, t, rfl, Bo, hf0, hf1, ht0, ht1, hgb, D⟩ := hcut
          obtain ⟨f, rfl⟩ := Int.eq_ofNat_of_zero_le hf0
          obtain ⟨t, rfl⟩ := Int.eq_ofNat_of_zero_le ht0
          clear rc1 rz1 rl1 hf0 ht0
          have htl : t < l.length := by have := hl.out; omega
          have hfl : f < l.length := by have := hl.out; omega
          obtain ⟨gt, rfl, _, hgt, _, kt⟩ := D.out.ti.at_ (j := t) (by have := hl.out; omega)
          obtain ⟨_, he, _, _, _, kf⟩ := D.out.ti.at_ (j := f) (by have := hl.out; omega)
          cases he
          go_wp2_with fail
          refine wp_region_tail 15 (by kernel_rfl) (by kernel_rfl) (fun w' => w'.cell? ⟨gb, 0, none⟩ = some (Value.int .i64 f) ∧ w'.cell? ⟨gb, 1, none⟩ = some (Value.int .i64 t) ∧ w'.cell? ⟨gt, t, none⟩ = some (Value.int .i64 (l.getD t 0)) ∧ w'.cell? ⟨gt, f, none⟩ = some (Value.int .i64 (l.getD f 0))) ?_ ?_
          · exact ⟨Bo.cell0 rfl, Bo.cell0 rfl, D.out.ti.cellAt t (by have := hl.out; omega), D.out.ti.cellAt f (by have := hl.out; omega)⟩
          intro hHeld
          have D := Lib.hid (D.out.ext (ext_drew (ext_refl w11)))
          have Bo := Bo.drew
          obtain ⟨d12, hd12⟩ : ∃ d, Hid (d = w11.drew) := ⟨_, rfl⟩
          have qd12 : w11.heap.size ≤ d12.heap.size := by rw [hd12.out]; exact Nat.le_refl _
          rw [← hd12.out] at D hHeld Bo ⊢
          simp only [List.pop_toArray, List.dropLast]
          refine wpAnyH_take (i := 0) (v := ?_) rfl (by kernel_rfl) (by kernel_rfl) (by kernel_rfl) (fun _ _ _ h => h) (Or.inl ⟨by rfl, fun w' hS' => ?_⟩) (by assumption) ?_
          rotate_left
          · (try dsimp only at hS'); go_simp; (try rw [if_pos (by omega)]); try with_reducible rfl
          try simp only [Act.put, List.getElem_toArray, List.getElem_cons_zero, List.getElem_cons_succ, List.setIfInBounds_toArray, List.set_cons_zero, List.set_cons_succ]
          refine wpAnyH_take (i := 1) (v := ?_) rfl (by kernel_rfl) (by kernel_rfl) (by kernel_rfl) (fun _ _ _ h => h) (Or.inl ⟨by rfl, fun w' hS' => ?_⟩) (by assumption) ?_
          rotate_left
          · (try dsimp only at hS'); go_simp; (try rw [if_pos (by omega)]); try with_reducible rfl
          try simp only [Act.put, List.getElem_toArray, List.getElem_cons_zero, List.getElem_cons_succ, List.setIfInBounds_toArray, List.set_cons_zero, List.set_cons_succ]
          refine wpAnyH_take (i := 2) (v := ?_) rfl (by kernel_rfl) (by kernel_rfl) (by kernel_rfl) (fun _ _ _ h => h) (Or.inl ⟨by rfl, fun w' hS' => ?_⟩) (by assumption) ?_
          rotate_left
          · (try dsimp only at hS'); go_simp; (try rw [if_pos (by omega)]); try with_reducible rfl
          try simp only [Act.put, List.getElem_toArray, List.getElem_cons_zero, List.getElem_cons_succ, List.setIfInBounds_toArray, List.set_cons_zero, List.set_cons_succ]
          refine wpAnyH_take (i := 3) (v := ?_) rfl (by kernel_rfl) (by kernel_rfl) (by kernel_rfl) (fun _ _ _ h => h) (Or.inl ⟨by rfl, fun w' hS' => ?_⟩) (by assumption) ?_
          rotate_left
          · (try dsimp only at hS'); go_simp; (try rw [if_pos (by omega)]); try with_reducible rfl
          try simp only [Act.put, List.getElem_toArray, List.getElem_cons_zero, List.getElem_cons_succ, List.setIfInBounds_toArray, List.set_cons_zero, List.set_cons_succ]
          refine wpAnyH_take (i := 4) (v := ?_) rfl (by kernel_rfl) (by kernel_rfl) (by kernel_rfl) (fun _ _ _ h => h) (Or.inl ⟨by rfl, fun w' hS' => ?_⟩) (by assumption) ?_
          rotate_left
          · (try dsimp only at hS'); go_simp; (try rw [if_pos (by omega)]); try with_reducible rfl
          try simp only [Act.put, List.getElem_toArray, List.getElem_cons_zero, List.getElem_cons_succ, List.setIfInBounds_toArray, List.set_cons_zero, List.set_cons_succ]
          refine wpAnyH_take (i := 5) (v := ?_) rfl (by kernel_rfl) (by kernel_rfl) (by kernel_rfl) (fun _ _ _ h => h) (Or.inl ⟨by rfl, fun w' hS' => ?_⟩) (by assumption) ?_
          rotate_left
          · (try dsimp only at hS'); go_simp; (try rw [if_pos (by omega)]); try with_reducible rfl
          try simp only [Act.put, List.getElem_toArray, List.getElem_cons_zero, List.getElem_cons_succ, List.setIfInBounds_toArray, List.set_cons_zero, List.set_cons_succ]
          refine wpAnyH_take (i := 6) (v := ?_) rfl (by kernel_rfl) (by kernel_rfl) (by kernel_rfl) (fun _ _ _ h => h) (Or.inl ⟨by rfl, fun w' hS' => ?_⟩) (by assumption) ?_
          rotate_left
          · (try dsimp only at hS'); go_simp; (try rw [if_pos (by omega)]); try with_reducible rfl
          try simp only [Act.put, List.getElem_toArray, List.getElem_cons_zero, List.getElem_cons_succ, List.setIfInBounds_toArray, List.set_cons_zero, List.set_cons_succ]
          refine wpAnyH_take (i := 7) (v := ?_) rfl (by kernel_rfl) (by kernel_rfl) (by kernel_rfl) (fun _ _ _ h => h) (Or.inl ⟨by rfl, fun w' hS' => ?_⟩) (by assumption) ?_
          rotate_left
          · (try dsimp only at hS'); go_simp; (try rw [if_pos (by omega)]); try with_reducible rfl
          try simp only [Act.put, List.getElem_toArray, List.getElem_cons_zero, List.getElem_cons_succ, List.setIfInBounds_toArray, List.set_cons_zero, List.set_cons_succ]
          refine wpAnyH_take (i := 8) (v := ?_) rfl (by kernel_rfl) (by kernel_rfl) (by kernel_rfl) (fun _ _ _ h => h) (Or.inl ⟨by rfl, fun w' hS' => ?_⟩) (by assumption) ?_
          rotate_left
          · (try dsimp only at hS'); go_simp; (try rw [if_pos (by omega)]); try with_reducible rfl
          try simp only [Act.put, List.getElem_toArray, List.getElem_cons_zero, List.getElem_cons_succ, List.setIfInBounds_toArray, List.set_cons_zero, List.set_cons_succ]
          refine wpAnyH_take (i := 9) (v := ?_) rfl (by kernel_rfl) (by kernel_rfl) (by kernel_rfl) (fun _ _ _ h => h) (Or.inl ⟨by rfl, fun w' hS' => ?_⟩) (by assumption) ?_
          rotate_left
          · (try dsimp only at hS'); go_simp; (try rw [if_pos (by omega)]); try with_reducible rfl
          try simp only [Act.put, List.getElem_toArray, List.getElem_cons_zero, List.getElem_cons_succ, List.setIfInBounds_toArray, List.set_cons_zero, List.set_cons_succ]
          refine wpAnyH_take (i := 10) (v := ?_) rfl (by kernel_rfl) (by kernel_rfl) (by kernel_rfl) (fun _ _ _ h => h) (Or.inl ⟨by rfl, fun w' hS' => ?_⟩) (by assumption) ?_
          rotate_left
          · (try dsimp only at hS'); go_simp; (try rw [if_pos (by omega)]); try with_reducible rfl
          try simp only [Act.put, List.getElem_toArray, List.getElem_cons_zero, List.getElem_cons_succ, List.setIfInBounds_toArray, List.set_cons_zero, List.set_cons_succ]
          refine wpAnyH_take (i := 11) (v := ?_) rfl (by kernel_rfl) (by kernel_rfl) (by kernel_rfl) (fun _ _ _ h => h) (Or.inl ⟨by rfl, fun w' hS' => ?_⟩) (by assumption) ?_
          rotate_left
          · (try dsimp only at hS'); go_simp; (try rw [if_pos (by omega)]); try with_reducible rfl
          try simp only [Act.put, List.getElem_toArray, List.getElem_cons_zero, List.getElem_cons_succ, List.setIfInBounds_toArray, List.set_cons_zero, List.set_cons_succ]
          refine wpAnyH_ready (rs := [12]) (by kernel_rfl) (by simp) ?_
          refine AllReadyH.cons rfl (fun K' hK => ?_) AllReadyH.nil
          refine if_yes (by rfl) ?_
          try simp only [Act.put, List.getElem_toArray, List.getElem_cons_zero, List.getElem_cons_succ, List.setIfInBounds_toArray, List.set_cons_zero, List.set_cons_succ]
          go_simp
          refine (spec_pick B g _ 8 _ D.out.rd (by omega)).mono ?_
          rintro e u12 ⟨y12, rfl, hy12, hz12, hr, hgw, -⟩
          have D := Lib.hid (D.out.pick hgw hr)
          have qu12 := hgw.size
          have Bo := Bo.near hgw (by omega)
          clear hr hgw
          go_wp2_with fail
          refine hK.out _ _ ?_ (fun hHeld => ?_)
          · exact ⟨Bo.cell0 rfl, Bo.cell0 rfl, D.out.ti.cellAt t (by have := hl.out; omega), D.out.ti.cellAt f (by have := hl.out; omega)⟩
          clear hK K'
          try simp only [Act.put, List.setIfInBounds_toArray, List.set_cons_zero, List.set_cons_succ]
          refine wpAnyH_take (i := 13) (v := ?_) rfl (by kernel_rfl) (by kernel_rfl) (by kernel_rfl) (fun _ _ _ h => h) (Or.inl ⟨by rfl, fun w' hS' => ?_⟩) (by assumption) ?_
          rotate_left
          · (try dsimp only at hS'); go_simp; (try rw [if_pos (by omega)]); try with_reducible rfl
          try simp only [Act.put, List.getElem_toArray, List.getElem_cons_zero, List.getElem_cons_succ, List.setIfInBounds_toArray, List.set_cons_zero, List.set_cons_succ]
          refine wpAnyH_take (i := 14) (v := ?_) rfl (by kernel_rfl) (by kernel_rfl) (by kernel_rfl) (fun _ _ _ h => h) (Or.inl ⟨by rfl, fun w' hS' => ?_⟩) (by assumption) ?_
          rotate_left
          · (try dsimp only at hS'); go_simp; (try rw [if_pos (by omega)]); try with_reducible rfl
          try simp only [Act.put, List.getElem_toArray, List.getElem_cons_zero, List.getElem_cons_succ, List.setIfInBounds_toArray, List.set_cons_zero, List.set_cons_succ]
          obtain ⟨rco, rzo⟩ := (Bo).rules; have rlo := (Bo).lt
          refine wpAnyH_done (by kernel_rfl) ?_ _
          refine tail_step rfl (fun K' hK => ?_)
          refine if_yes (by rfl) ?_
          try simp only [Act.put, List.getElem_toArray, List.getElem_cons_zero, List.getElem_cons_succ, List.setIfInBounds_toArray, List.set_cons_zero, List.set_cons_succ]
          go_simp
          refine hK _ _ ?_
          clear hK K'
          try simp only [Act.put, List.getElem_toArray, List.getElem_cons_zero, List.getElem_cons_succ, List.setIfInBounds_toArray, List.set_cons_zero, List.set_cons_succ]
          generalize (IntKind.i64.wrap (IntKind.i64.wrap (l[t] - l[f]) + y12)) = mm
          have Bo : Box (u12.setCell ⟨gb, 2, none⟩ (.int .i64 mm)) gb 78 #[.int .i64 f, .int .i64 t, .int .i64 mm] := Bo.set 2 _
          have D := Lib.hid (D.out.high (k := gb) (i := 2) (by omega) (fun k hk => by have := Bbd.out k hk; omega) (.int .i64 mm))
          obtain ⟨w12, hw12⟩ : ∃ w12, Hid (w12 = u12.setCell ⟨gb, 2, none⟩ (.int .i64 mm)) := ⟨_, rfl⟩
          have qw12 : u12.heap.size ≤ w12.heap.size := by rw [hw12.out]; simp [World.setCell]
          rw [← hw12.out] at Bo D ⊢
          clear rco rzo rlo kt kf hHeld
          go_upto_region 13 with fail
          go_cut [72] (fun v wx => ∃ b : Bool, v = .bool b ∧ Box wx gb 78 #[.int .i64 f, .int .i64 t, .int .i64 mm] ∧ w12.heap.size ≤ wx.heap.size ∧ Hid (DS w B g w2.heap.size j w6.heap.size (w2.heap.size + 1) (.slice bv bl.length bcap) bl (.slice (some ⟨gt, 0, none⟩) l.length capv) l (m + 10 + 2 * j + 6 * (8 - i) + 1 + 1 + 1 + 1) wx))
          case first =>
            by_cases h50 : x5 = 0
            · subst h50
              go_wp2_with fail
              refine (spec_pick B g _ 3 _ D.out.rd (by omega)).mono ?_
              rintro e w13 ⟨y13, rfl, hy13, hz13, hr, hgw, -⟩
              have D := Lib.hid (D.out.pick hgw hr)
              have q13 := hgw.size
              have Bo := Bo.near hgw (by omega)
              clear hr hgw
              by_cases h130 : y13 = 0
              · go_wp2_with fail
                go_meet
                exact ⟨_, rfl, Bo, q13, D⟩
              · go_wp2_with fail
                go_meet
                exact ⟨_, rfl, Bo, q13, D⟩
            · go_wp2_with fail
              go_meet
              exact ⟨_, rfl, Bo, Nat.le_refl _, Lib.hid (D.out.mono (by omega))⟩
          rename World => w13
          obtain ⟨b, rfl, Bo, q13, D⟩ := hcut
          cases b
          · obtain ⟨rc1, rz1⟩ := (D.out.b1).rules; have rl1 := (D.out.b1).lt
            obtain ⟨rco, rzo⟩ := (Bo).rules; have rlo := (Bo).lt
            obtain ⟨bl', hbl'⟩ : ∃ bl' : List Bd, Hid (bl' = bl ++ [(⟨(f : Int), (t : Int), mm⟩ : Bd)]) := ⟨_, rfl⟩
            go_wp2_with (at_builtin; refine wpl_appB _ rfl (.tmp 80) (.tmp 82) rfl w6.heap.size _ (.slice bv bl.length bcap) bl rfl (D.out.bd.alloc _) _ [(⟨(f : Int), (t : Int), mm⟩ : Bd)] rfl (Bds.lit _ (⟨(f : Int), (t : Int), mm⟩ : Bd)) (by have := hbl.out; simp; omega) (by have := D.out.o6; simp; omega) ?_; intro v' wz hv' hg'; rw [← hbl'.out] at hv'; obtain ⟨bv', bcap', rfl, -⟩ := hv'.open; obtain ⟨rc2, rz2⟩ := ((D.out.b1.alloc _).grown hg' (fun e => by have := D.out.bd.lt _ e.symm; omega)).rules)
            have D := Lib.hid (D.out.grow hg' hv')
            go_roundg (i - 1)
            case rel => exact ⟨i-1, _, bl', by omega, rfl, by go_num, Lib.hid (by rw [hbl'.out]; simp; have := hbl.out; omega), Lib.hid (D.out.mono (by omega))⟩
            case measure => have := Hk.out; omega
          · go_wp2_with fail
            refine wp_region_tail 6 (by kernel_rfl) (by kernel_rfl) (fun w' => w'.cell? ⟨gb, 2, none⟩ = some (Value.int .i64 mm)) ?_ ?_
            · exact Bo.cell0 rfl
            intro hHeld
            have D := Lib.hid (D.out.ext (ext_drew (ext_refl w13)))
            have Bo := Bo.drew
            obtain ⟨d14, hd14⟩ : ∃ d, Hid (d = w13.drew) := ⟨_, rfl⟩
            have qd14 : w13.heap.size ≤ d14.heap.size := by rw [hd14.out]; exact Nat.le_refl _
            rw [← hd14.out] at D hHeld Bo ⊢
            simp only [List.pop_toArray, List.dropLast]
            refine wpAnyH_take (i := 0) (v := ?_) rfl (by kernel_rfl) (by kernel_rfl) (by kernel_rfl) (fun _ _ _ h => h) (Or.inl ⟨by rfl, fun w' hS' => ?_⟩) (by assumption) ?_
            rotate_left
            · (try dsimp only at hS'); go_simp; (try rw [if_pos (by omega)]); try with_reducible rfl
            try simp only [Act.put, List.getElem_toArray, List.getElem_cons_zero, List.getElem_cons_succ, List.setIfInBounds_toArray, List.set_cons_zero, List.set_cons_succ]
            refine wpAnyH_take (i := 1) (v := ?_) rfl (by kernel_rfl) (by kernel_rfl) (by kernel_rfl) (fun _ _ _ h => h) (Or.inl ⟨by rfl, fun w' hS' => ?_⟩) (by assumption) ?_
            rotate_left
            · (try dsimp only at hS'); go_simp; (try rw [if_pos (by omega)]); try with_reducible rfl
            try simp only [Act.put, List.getElem_toArray, List.getElem_cons_zero, List.getElem_cons_succ, List.setIfInBounds_toArray, List.set_cons_zero, List.set_cons_succ]
            refine wpAnyH_take (i := 2) (v := ?_) rfl (by kernel_rfl) (by kernel_rfl) (by kernel_rfl) (fun _ _ _ h => h) (Or.inl ⟨by rfl, fun w' hS' => ?_⟩) (by assumption) ?_
            rotate_left
            · (try dsimp only at hS'); go_simp; (try rw [if_pos (by omega)]); try with_reducible rfl
            try simp only [Act.put, List.getElem_toArray, List.getElem_cons_zero, List.getElem_cons_succ, List.setIfInBounds_toArray, List.set_cons_zero, List.set_cons_succ]
            refine wpAnyH_ready (rs := [3]) (by kernel_rfl) (by simp) ?_
            refine AllReadyH.cons rfl (fun K' hK => ?_) AllReadyH.nil
            refine if_yes (by rfl) ?_
            try simp only [Act.put, List.getElem_toArray, List.getElem_cons_zero, List.getElem_cons_succ, List.setIfInBounds_toArray, List.set_cons_zero, List.set_cons_succ]
            go_simp
            refine (spec_pick B g _ 8 _ D.out.rd (by omega)).mono ?_
            rintro e u14 ⟨y14, rfl, hy14, hz14, hr, hgw, -⟩
            have D := Lib.hid (D.out.pick hgw hr)
            have qu14 := hgw.size
            have Bo := Bo.near hgw (by omega)
            clear hr hgw
            go_wp2_with fail
            refine hK.out _ _ ?_ (fun hHeld => ?_)
            · exact Bo.cell0 rfl
            clear hK K'
            try simp only [Act.put, List.setIfInBounds_toArray, List.set_cons_zero, List.set_cons_succ]
            refine wpAnyH_take (i := 4) (v := ?_) rfl (by kernel_rfl) (by kernel_rfl) (by kernel_rfl) (fun _ _ _ h => h) (Or.inl ⟨by rfl, fun w' hS' => ?_⟩) (by assumption) ?_
            rotate_left
            · (try dsimp only at hS'); go_simp; (try rw [if_pos (by omega)]); try with_reducible rfl
            try simp only [Act.put, List.getElem_toArray, List.getElem_cons_zero, List.getElem_cons_succ, List.setIfInBounds_toArray, List.set_cons_zero, List.set_cons_succ]
            refine wpAnyH_take (i := 5) (v := ?_) rfl (by kernel_rfl) (by kernel_rfl) (by kernel_rfl) (fun _ _ _ h => h) (Or.inl ⟨by rfl, fun w' hS' => ?_⟩) (by assumption) ?_
            rotate_left
            · (try dsimp only at hS'); go_simp; (try rw [if_pos (by omega)]); try with_reducible rfl
            try simp only [Act.put, List.getElem_toArray, List.getElem_cons_zero, List.getElem_cons_succ, List.setIfInBounds_toArray, List.set_cons_zero, List.set_cons_succ]
            obtain ⟨rco, rzo⟩ := (Bo).rules; have rlo := (Bo).lt
            refine wpAnyH_done (by kernel_rfl) ?_ _
            refine tail_step rfl (fun K' hK => ?_)
            refine if_yes (by rfl) ?_
            try simp only [Act.put, List.getElem_toArray, List.getElem_cons_zero, List.getElem_cons_succ, List.setIfInBounds_toArray, List.set_cons_zero, List.set_cons_succ]
            go_simp
            refine hK _ _ ?_
            clear hK K'
            try simp only [Act.put, List.getElem_toArray, List.getElem_cons_zero, List.getElem_cons_succ, List.setIfInBounds_toArray, List.set_cons_zero, List.set_cons_succ]
            generalize IntKind.i64.wrap (mm - y14) = nn
            have Bo : Box (u14.setCell ⟨gb, 2, none⟩ (.int .i64 nn)) gb 78 #[.int .i64 f, .int .i64 t, .int .i64 nn] := Bo.set 2 _
            have D := Lib.hid (D.out.high (k := gb) (i := 2) (by omega) (fun k hk => by have := Bbd.out k hk; omega) (.int .i64 nn))
            obtain ⟨w14, hw14⟩ : ∃ w14, Hid (w14 = u14.setCell ⟨gb, 2, none⟩ (.int .i64 nn)) := ⟨_, rfl⟩
            rw [← hw14.out] at Bo D ⊢
            clear rco rzo rlo hHeld
            obtain ⟨rc1, rz1⟩ := (D.out.b1).rules; have rl1 := (D.out.b1).lt
            obtain ⟨rco, rzo⟩ := (Bo).rules; have rlo := (Bo).lt
            obtain ⟨bl', hbl'⟩ : ∃ bl' : List Bd, Hid (bl' = bl ++ [(⟨(f : Int), (t : Int), nn⟩ : Bd)]) := ⟨_, rfl⟩
            go_wp2_with (at_builtin; refine wpl_appB _ rfl (.tmp 80) (.tmp 82) rfl w6.heap.size _ (.slice bv bl.length bcap) bl rfl (D.out.bd.alloc _) _ [(⟨(f : Int), (t : Int), nn⟩ : Bd)] rfl (Bds.lit _ (⟨(f : Int), (t : Int), nn⟩ : Bd)) (by have := hbl.out; simp; omega) (by have := D.out.o6; simp; omega) ?_; intro v' wz hv' hg'; rw [← hbl'.out] at hv'; obtain ⟨bv', bcap', rfl, -⟩ := hv'.open; obtain ⟨rc2, rz2⟩ := ((D.out.b1.alloc _).grown hg' (fun e => by have := D.out.bd.lt _ e.symm; omega)).rules)
            have D := Lib.hid (D.out.grow hg' hv')
            go_roundg (i - 1)
            case rel => exact ⟨i-1, _, bl', by omega, rfl, by go_num, Lib.hid (by rw [hbl'.out]; simp; have := hbl.out; omega), Lib.hid (D.out.mono (by omega))⟩
            case measure => have := Hk.out; omega
        · obtain rfl : i = 0 := by omega
          clear rc1 rz1 rl1
          go_wp2_with fail
          refine (spec_odd B g _ n _ D.out.rd (by omega) hn).mono ?_
          rintro e w16 ⟨x16, rfl, hr, hgw, -⟩
          have D := Lib.hid (D.out.pick hgw hr)
          clear hr hgw
          cases x16
          · obtain ⟨rc0, rz0⟩ := (D.out.b0).rules; have rl0 := (D.out.b0).lt
            obtain ⟨rc1, rz1⟩ := (D.out.b1).rules; have rl1 := (D.out.b1).lt
            go_wp2_with fail
            refine bodyPost_ret (v := .agg #[.int .i64 j, .slice bv bl.length bcap]) (by simp [results, Try.results93, go_sem, *]) rfl ?_
            exact D.out.done (by have := hbl.out; omega) (by omega) (by omega) _ _ _ _
          · go_wp2_with fail
            refine (spec_pick B g _ 3 _ D.out.rd (by omega)).mono ?_
            rintro e w17 ⟨y17, rfl, hy17, hz17, hr, hgw, -⟩
            have D := Lib.hid (D.out.pick hgw hr)
            have hg17 := Lib.hid D.out.rd.lt
            clear hr hgw
            by_cases h170 : y17 = 0
            · subst h170
              go_wp2_with fail
              obtain ⟨w18, hw18, L0, hs18, E18⟩ := one_box w17 #[.int .i64 0, .int .i64 7] 3
              rw [← hw18.out]
              have D := Lib.hid (D.out.ext E18)
              have q17 := (DS.gr D.out).size
              have hgl : g < w17.heap.size := by have := hg17.out.2; omega
              refine (spec_pick B g _ 2 _ D.out.rd (by omega)).mono ?_
              rintro e w19 ⟨y19, rfl, hy19, hz19, hr, hgw, -⟩
              have D := Lib.hid (D.out.pick hgw hr)
              have L0 := L0.near hgw hgl
              clear hr hgw E18
              by_cases h190 : y19 = 0
              · subst h190
                obtain ⟨rc1, rz1⟩ := (D.out.b1).rules; have rl1 := (D.out.b1).lt
                obtain ⟨rcL, rzL⟩ := (L0).rules; have rlL := (L0).lt
                go_upto_region 23 with fail
                have D := Lib.hid (D.out.putP 0)
                obtain ⟨wf, hwf⟩ : ∃ wf, Hid (wf = w19.setCell ⟨w2.heap.size, 0, none⟩ (.int .i64 0)) := ⟨_, rfl⟩
                have D : Hid (DS w B g w2.heap.size 0 w6.heap.size (w2.heap.size + 1) (.slice bv bl.length bcap) bl (.slice av l.length capv) l (m + 10 + 2 * j + 6 * (8 - 0) + 1 + 1 + 1) wf) := by rw [hwf.out]; exact D
                rw [← hwf.out]
                clear rc1 rz1 rl1 rcL rzL rlL
                obtain ⟨rc0, rz0⟩ := (D.out.b0).rules; have rl0 := (D.out.b0).lt
                obtain ⟨rc1, rz1⟩ := (D.out.b1).rules; have rl1 := (D.out.b1).lt
                go_wp2_with fail
                refine bodyPost_ret (v := .agg #[.int .i64 0, .slice bv bl.length bcap]) (by simp [results, Try.results93, go_sem, *]) rfl ?_
                exact D.out.done (by have := hbl.out; omega) (by omega) (by omega) _ _ _ _
              · obtain rfl : y19 = 1 := by omega
                obtain ⟨rc1, rz1⟩ := (D.out.b1).rules; have rl1 := (D.out.b1).lt
                obtain ⟨rcL, rzL⟩ := (L0).rules; have rlL := (L0).lt
                go_upto_region 23 with fail
                have D := Lib.hid (D.out.putP 7)
                obtain ⟨wf, hwf⟩ : ∃ wf, Hid (wf = w19.setCell ⟨w2.heap.size, 0, none⟩ (.int .i64 7)) := ⟨_, rfl⟩
                have D : Hid (DS w B g w2.heap.size 7 w6.heap.size (w2.heap.size + 1) (.slice bv bl.length bcap) bl (.slice av l.length capv) l (m + 10 + 2 * j + 6 * (8 - 0) + 1 + 1 + 1) wf) := by rw [hwf.out]; exact D
                rw [← hwf.out]
                clear rc1 rz1 rl1 rcL rzL rlL
                obtain ⟨rc0, rz0⟩ := (D.out.b0).rules; have rl0 := (D.out.b0).lt
                obtain ⟨rc1, rz1⟩ := (D.out.b1).rules; have rl1 := (D.out.b1).lt
                go_wp2_with fail
                refine bodyPost_ret (v := .agg #[.int .i64 7, .slice bv bl.length bcap]) (by simp [results, Try.results93, go_sem, *]) rfl ?_
                exact D.out.done (by have := hbl.out; omega) (by omega) (by omega) _ _ _ _
            · by_cases h171 : y17 = 1
              · subst h171
                obtain ⟨rc1, rz1⟩ := (D.out.b1).rules; have rl1 := (D.out.b1).lt
                have hd6 := D.out.o6
                obtain ⟨bl', hbl'⟩ : ∃ bl' : List Bd, Hid (bl' = bl ++ [(⟨0, (j : Int), 0⟩ : Bd)]) := ⟨_, rfl⟩
                have hbL : Hid (bl'.length ≤ 9) := by rw [hbl'.out]; simp; have := hbl.out; show _ ≤ _; omega
                go_upto_region 23 with (at_builtin; refine wpl_appB _ rfl (.tmp 107) (.tmp 111) rfl w6.heap.size _ (.slice bv bl.length bcap) bl rfl (D.out.bd.alloc _) _ [(⟨0, (j : Int), 0⟩ : Bd)] rfl (Bds.lit _ (⟨0, (j : Int), 0⟩ : Bd)) (by have := hbl.out; simp; omega) (by simp; omega) ?_; intro v' wz hv' hg'; rw [← hbl'.out] at hv'; obtain ⟨bv', bcap', rfl, -⟩ := hv'.open; obtain ⟨rc2, rz2⟩ := ((D.out.b1.alloc _).grown hg' (fun e => by have := D.out.bd.lt _ e.symm; omega)).rules)
                have D := Lib.hid (D.out.grow hg' hv')
                obtain ⟨wf, hwf⟩ : ∃ wf, Hid (wf = wz.setCell ⟨w2.heap.size, 1, none⟩ (.slice bv' bl'.length bcap')) := ⟨_, rfl⟩
                rw [← hwf.out] at D ⊢
                clear rc2 rz2
                obtain ⟨rc0, rz0⟩ := (D.out.b0).rules; have rl0 := (D.out.b0).lt
                obtain ⟨rc1, rz1⟩ := (D.out.b1).rules; have rl1 := (D.out.b1).lt
                go_wp2_with fail
                refine bodyPost_ret (v := .agg #[.int .i64 j, .slice bv' bl'.length bcap']) (by simp [results, Try.results93, go_sem, *]) rfl ?_
                exact D.out.done (by have := hbL.out; omega) (by omega) (by omega) _ _ _ _
              · obtain ⟨rc1, rz1⟩ := (D.out.b1).rules; have rl1 := (D.out.b1).lt
                have hd6 := D.out.o6
                obtain ⟨bl', hbl'⟩ : ∃ bl' : List Bd, Hid (bl' = bl ++ [(⟨0, 0, 100⟩ : Bd)]) := ⟨_, rfl⟩
                have hbL : Hid (bl'.length ≤ 9) := by rw [hbl'.out]; simp; have := hbl.out; show _ ≤ _; omega
                go_upto_region 23 with (at_builtin; refine wpl_appB _ rfl (.tmp 91) (.tmp 93) rfl w6.heap.size _ (.slice bv bl.length bcap) bl rfl (D.out.bd.alloc _) _ [(⟨0, 0, 100⟩ : Bd)] rfl (Bds.lit _ (⟨0, 0, 100⟩ : Bd)) (by have := hbl.out; simp; omega) (by simp; omega) ?_; intro v' wz hv' hg'; rw [← hbl'.out] at hv'; obtain ⟨bv', bcap', rfl, -⟩ := hv'.open; obtain ⟨rc2, rz2⟩ := ((D.out.b1.alloc _).grown hg' (fun e => by have := D.out.bd.lt _ e.symm; omega)).rules)
                have D := Lib.hid (D.out.grow hg' hv')
                obtain ⟨wf, hwf⟩ : ∃ wf, Hid (wf = wz.setCell ⟨w2.heap.size, 1, none⟩ (.slice bv' bl'.length bcap')) := ⟨_, rfl⟩
                rw [← hwf.out] at D ⊢
                clear rc2 rz2
                obtain ⟨rc0, rz0⟩ := (D.out.b0).rules; have rl0 := (D.out.b0).lt
                obtain ⟨rc1, rz1⟩ := (D.out.b1).rules; have rl1 := (D.out.b1).lt
                go_wp2_with fail
                refine bodyPost_ret (v := .agg #[.int .i64 j, .slice bv' bl'.length bcap']) (by simp [results, Try.results93, go_sem, *]) rfl ?_
                exact D.out.done (by have := hbL.out; omega) (by omega) (by omega) _ _ _ _
end Go.Proofs.Ytffcfambgcaikaa
