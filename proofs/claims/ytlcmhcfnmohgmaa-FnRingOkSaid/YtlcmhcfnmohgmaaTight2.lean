/- The draw of a plan with a bound that is just kept or broken. No condition but that the reader can be read. -/
import Derived.Test.YtlcmhcfnmohgmaaSearch
import Derived.Test.YtlcmhcfnmohgmaaDrawPlan
import Derived.Test.YtlcmhcfnmohgmaaPlanOut
import Derived.Test.YtlcmhcfnmohgmaaTail
namespace Go.Proofs.Ytlcmhcfnmohgmaa
open Go.RowKit
set_option linter.unusedVariables false
set_option linter.unusedSimpArgs false
theorem Bds.cellB {w : World} {base n cap gv : Nat} {l : List Bd} (h : Bds w base (.slice (some ⟨gv, 0, none⟩) n cap) l) : ∀ j, j < l.length → w.cell? ⟨gv, j * 3, none⟩ = some (Value.int .i64 (l.getD j Bd.z).f) ∧ w.cell? ⟨gv, j * 3 + 1, none⟩ = some (Value.int .i64 (l.getD j Bd.z).t) ∧ w.cell? ⟨gv, j * 3 + 2, none⟩ = some (Value.int .i64 (l.getD j Bd.z).m) := by
  intro j hj
  obtain ⟨g, he, _, _, _, h0, h1, h2⟩ := h.at_ hj
  cases he
  exact ⟨h0, h1, h2⟩
theorem spec_WithBoundS (p : Pl) (x y z : Int) (bs : Value) (w : World) (hv : Bds w 0 bs p.bs) (hlen : p.bs.length ≤ 1900000) :
    Calls Try.prog 91 #[.agg #[.int .i64 p.pts, bs], .agg #[.int .i64 x, .int .i64 y, .int .i64 z]] w fun e w' => ∃ (P : Pl) (s : Value) (ok : Bool), e = .returned (.tuple #[.agg #[.int .i64 P.pts, s], .bool ok]) ∧ Bds w' w.heap.size s P.bs ∧ (ok = true → P.bs.length ≤ 16 ∧ 0 ≤ P.pts ∧ P.pts ≤ 7) ∧ Below w.heap.size w w' := by
  refine (spec_WithBound p ⟨x, y, z⟩ bs w hv hlen).mono ?_
  rintro e w' ⟨s, rfl, h1, h2⟩
  refine ⟨_, s, _, rfl, h1, fun hok => ?_, h2⟩
  have e1 : (p.plus [⟨x, y, z⟩]).told = p.plus [⟨x, y, z⟩] := if_pos hok
  rw [e1]
  simp only [Pl.ok, Bool.and_eq_true, decide_eq_true_eq, inB_iff] at hok
  exact ⟨hok.2.1, by omega, by omega⟩
def RetTight (w : World) (B g m : Nat) : Ending → World → Prop := fun e w' => ∃ (bs : Value) (p : Pl), e = .returned (.agg #[.int .i64 p.pts, bs]) ∧ Bds w' w.heap.size bs p.bs ∧ p.bs.length ≤ 16 ∧ 0 ≤ p.pts ∧ p.pts ≤ 7 ∧ Rd w' B g m ∧ w.grownBy w' (some g)
def OutBd (w : World) (B g m : Nat) (v : Value) (wx : World) : Prop := ∃ (gb : Nat) (b : Bd), v = .pointer (some ⟨gb, 0, none⟩) ∧ Box wx gb 48 #[.int .i64 b.f, .int .i64 b.t, .int .i64 b.m] ∧ w.heap.size ≤ gb ∧ Rd wx B g m ∧ w.grownBy wx (some g)
def OutPl (w : World) (B g m : Nat) (v v' : Value) (wx : World) : Prop := ∃ (go : Nat) (P : Pl) (s : Value) (ok : Bool), v = .pointer (some ⟨go, 0, none⟩) ∧ v' = .bool ok ∧ Box wx go 25 #[.int .i64 P.pts, s] ∧ w.heap.size ≤ go ∧ Bds wx w.heap.size s P.bs ∧ (ok = true → P.bs.length ≤ 16 ∧ 0 ≤ P.pts ∧ P.pts ≤ 7) ∧ Rd wx B g m ∧ w.grownBy wx (some g)
set_option maxRecDepth 100000 in
set_option maxHeartbeats 16000000 in
theorem spec_l20Tight (B g m : Nat) (n : Int) (w : World) (h : Rd w B g m) (hm : m ≤ 80000) (hn : 0 ≤ n) :
    Calls Try.prog 83 #[.pointer (some ⟨g, 0, none⟩), .int .i64 n] w (RetTight w B g (m + 300)) := by
  have R := Lib.hid h
  have hgl := h.lt
  clear h
  go_enter Try.func83, Try.ntmps83
  go_wp2_with fail
  obtain ⟨W, hW, R0, hs, E⟩ := one_box w #[.int .i64 0, .slice none 0 0] 25
  rw [← hW.out]
  have G := Lib.hid (grown_of_ext (some g) E)
  have R := Lib.hid (R.out.ext E)
  clear E
  refine (spec_l20Plan B g m n W R.out (by omega) hn).mono ?_
  rintro e w1 ⟨bs, p, rfl, hbs, hl, h0, h7, hr, hgw⟩
  have R := Lib.hid hr
  have G := Lib.hid (grown_trans' G.out hgw)
  have R0 := R0.near hgw (by omega)
  have q1 := hgw.size
  obtain ⟨av, cv, rfl, -⟩ := hbs.open
  have V := Lib.hid hbs
  have hVb : ∀ q, (Value.slice av p.bs.length cv).ownBlock = some q → W.heap.size ≤ q := fun q hq => (hbs.lt q hq).1
  clear hbs hr hgw
  go_upto_region 2 with fail
  obtain ⟨w2, hw2, P0, hs2, E2⟩ := one_box w1 #[.int .i64 p.pts, .slice av p.bs.length cv] 25
  rw [← hw2.out]
  have R := Lib.hid (R.out.ext E2)
  have V := Lib.hid (V.out.ext E2)
  have R0 := R0.ext E2
  have G := Lib.hid (grown_ext' G.out E2)
  have q2 := hs2
  clear E2
  go_wp2_with fail
  refine (spec_pick B g _ 3 _ R.out (by omega)).mono ?_
  rintro e w11 ⟨x11, rfl, hx11, hy11, r11, g11, -⟩
  have R := Lib.hid r11
  have G := Lib.hid (grown_trans' G.out g11)
  have R0 := R0.near g11 (by omega)
  have P0 := P0.near g11 (by omega)
  have V := Lib.hid (V.out.near g11 (by omega))
  have q11 := g11.size
  clear r11 g11
  by_cases hx : 0 < x11
  · obtain ⟨rc0, rz0⟩ := (P0).rules; have rl0 := (P0).lt
    go_wp2_with fail
    refine (spec_PlanOk p _ _ (V.out.base (Nat.zero_le _))).mono ?_
    rintro e w12 ⟨rfl, hb12⟩
    have R0 := R0.ext hb12
    have P0 := P0.ext hb12
    have V := Lib.hid (V.out.ext hb12)
    have R := Lib.hid (R.out.ext hb12)
    have G := Lib.hid (grown_ext' G.out hb12)
    have q12 := hb12.size
    clear rc0 rz0 rl0 hb12
    cases hok : p.ok
    · clear hok
      obtain ⟨rc0, rz0⟩ := (R0).rules; have rl0 := (R0).lt
      obtain ⟨rc1, rz1⟩ := (P0).rules; have rl1 := (P0).lt
      go_wp2_with fail
      refine bodyPost_ret (v := .agg #[.int .i64 p.pts, .slice av p.bs.length cv]) (by simp [results, Try.results83, go_sem, *]) rfl ?_
      exact ⟨_, p, rfl, ((V.out.low (by dsimp only; omega) _).low (by dsimp only; omega) _).base (by omega), by omega, h0, h7, ((R.out.set (by dsimp only; omega) (by dsimp only; omega) _).set (by dsimp only; omega) (by dsimp only; omega) _).mono (by omega), grown_set' (grown_set' G.out (Nat.le_refl _) _) (Nat.le_refl _) _⟩
    · have Hok := Lib.hid hok
      clear hok
      by_cases hb0 : 0 < p.bs.length
      · have hb0i : (0 : Int) < (p.bs.length : Int) := by omega
        obtain ⟨rc0, rz0⟩ := (P0).rules; have rl0 := (P0).lt
        go_upto_region 3 with fail
        clear rc0 rz0 rl0
        obtain ⟨gv, hav, -, -, -, -, -, -⟩ := V.out.at_ hb0
        subst hav
        obtain ⟨ws, hws⟩ : ∃ ws, ws = w12 := ⟨_, rfl⟩
        subst hws
        have Gw := G
        clear G
        go_cut [6] (fun v6 wx => OutBd ws B g (m + 202) v6 wx)
        case first =>
          obtain ⟨_, hav, hgv1, hgvl, _, _, _, _⟩ := V.out.at_ hb0
          cases hav
          obtain ⟨fb, Hfb⟩ : ∃ fb : Nat → Bd, Hid (fb = fun j => p.bs.getD j Bd.z) := ⟨_, rfl⟩
          have hgvs : gv < ws.heap.size := hgvl
          have Vn : ∀ q, (Value.slice (some ⟨gv, 0, none⟩) p.bs.length cv).ownBlock = some q → q < ws.heap.size := fun q hq => by simp [Value.ownBlock] at hq; omega
          have G : Hid (ws.grownBy ws (some g)) := Lib.hid (World.grownBy.refl _ _)
          refine wp_region_held_drew (S := fun w' => w'.cell? ⟨w1.heap.size, 0, none⟩ = some (Value.int .i64 p.pts) ∧ w'.cell? ⟨w1.heap.size, 1, none⟩ = some (Value.slice (some ⟨gv, 0, none⟩) p.bs.length cv) ∧ (∀ j, j < p.bs.length → w'.cell? ⟨gv, j * 3, none⟩ = some (Value.int .i64 (fb j).f) ∧ w'.cell? ⟨gv, j * 3 + 1, none⟩ = some (Value.int .i64 (fb j).t) ∧ w'.cell? ⟨gv, j * 3 + 2, none⟩ = some (Value.int .i64 (fb j).m))) (by kernel_rfl) ?_ (fun hHeld => ?_)
          · exact ⟨P0.cell0 rfl, P0.cell0 rfl, by rw [Hfb.out]; exact V.out.cellB⟩
          have G := Lib.hid (grown_drew' G.out)
          have R := Lib.hid R.out.drew
          have V := Lib.hid V.out.drew
          have P0 := P0.drew
          obtain ⟨D, hD⟩ : ∃ D, Hid (D = ws.drew) := ⟨_, rfl⟩
          have qD : ws.heap.size ≤ D.heap.size := by rw [hD.out]; exact Nat.le_refl _
          rw [← hD.out] at G R V P0 hHeld ⊢
          try simp only [Act.put, List.setIfInBounds_toArray, List.set_cons_zero, List.set_cons_succ]
          refine wpAnyH_take (i := 0) (v := ?_) rfl (by kernel_rfl) (by kernel_rfl) (by kernel_rfl) (fun _ _ _ h => h) (Or.inl ⟨by rfl, fun w' hS' => ?_⟩) (by assumption) ?_
          rotate_left
          · (try dsimp only at hS'); go_simp; (try rw [if_pos (by omega)]); try with_reducible rfl
          try simp only [Act.put, List.getElem_toArray, List.getElem_cons_zero, List.getElem_cons_succ, List.setIfInBounds_toArray, List.set_cons_zero, List.set_cons_succ]
          refine wpAnyH_take (i := 1) (v := ?_) rfl (by kernel_rfl) (by kernel_rfl) (by kernel_rfl) (fun _ _ _ h => h) (Or.inl ⟨by rfl, fun w' hS' => ?_⟩) (by assumption) ?_
          rotate_left
          · (try dsimp only at hS'); go_simp; (try rw [if_pos (by omega)]); try with_reducible rfl
          try simp only [Act.put, List.getElem_toArray, List.getElem_cons_zero, List.getElem_cons_succ, List.setIfInBounds_toArray, List.set_cons_zero, List.set_cons_succ]
          refine wpAnyH_take (i := 2) (v := ?_) rfl (by kernel_rfl) (by kernel_rfl) (by kernel_rfl) (fun _ _ _ h => h) (Or.inl ⟨by rfl, fun w' hS' => ?_⟩) (by assumption) ?_
          rotate_left
          · (try dsimp only at hS'); go_simp; (try rw [if_pos (by omega)]); try with_reducible rfl
          try simp only [Act.put, List.getElem_toArray, List.getElem_cons_zero, List.getElem_cons_succ, List.setIfInBounds_toArray, List.set_cons_zero, List.set_cons_succ]
          refine wpAnyH_take (i := 3) (v := ?_) rfl (by kernel_rfl) (by kernel_rfl) (by kernel_rfl) (fun _ _ _ h => h) (Or.inl ⟨by rfl, fun w' hS' => ?_⟩) (by assumption) ?_
          rotate_left
          · (try dsimp only at hS'); go_simp; (try rw [if_pos (by omega)]); try with_reducible rfl
          try simp only [Act.put, List.getElem_toArray, List.getElem_cons_zero, List.getElem_cons_succ, List.setIfInBounds_toArray, List.set_cons_zero, List.set_cons_succ]
          refine wpAnyH_take (i := 4) (v := ?_) rfl (by kernel_rfl) (by kernel_rfl) (by kernel_rfl) (fun _ _ _ h => h) (Or.inl ⟨by rfl, fun w' hS' => ?_⟩) (by assumption) ?_
          rotate_left
          · (try dsimp only at hS'); go_simp; (try rw [if_pos (by omega)]); try with_reducible rfl
          try simp only [Act.put, List.getElem_toArray, List.getElem_cons_zero, List.getElem_cons_succ, List.setIfInBounds_toArray, List.set_cons_zero, List.set_cons_succ]
          refine wpAnyH_take (i := 5) (v := ?_) rfl (by kernel_rfl) (by kernel_rfl) (by kernel_rfl) (fun _ _ _ h => h) (Or.inl ⟨by rfl, fun w' hS' => ?_⟩) (by assumption) ?_
          rotate_left
          · (try dsimp only at hS'); go_simp; (try rw [if_pos (by omega)]); try with_reducible rfl
          try simp only [Act.put, List.getElem_toArray, List.getElem_cons_zero, List.getElem_cons_succ, List.setIfInBounds_toArray, List.set_cons_zero, List.set_cons_succ]
          refine wpAnyH_ready (rs := [6, 9]) (by kernel_rfl) (by simp) ?_
          refine AllReadyH.cons rfl (fun K' hK => ?_) (AllReadyH.cons rfl (fun K' hK => ?_) AllReadyH.nil)
          · skip
            refine if_yes (by rfl) ?_
            try simp only [Act.put, List.setIfInBounds_toArray, List.set_cons_zero, List.set_cons_succ]
            go_simp
            refine (spec_pick B g _ p.bs.length _ R.out (by omega)).mono ?_
            rintro e x1w ⟨y, rfl, hy0, hy1, hr, hgw, -⟩
            have P0 := P0.near hgw (by omega)
            have V := Lib.hid (V.out.near hgw (by omega))
            have G := Lib.hid (grown_trans' G.out hgw)
            have R := Lib.hid hr
            have qx1w := hgw.size
            clear hr hgw
            go_wp2_with fail
            obtain ⟨i, rfl⟩ : ∃ i : Nat, y = (i : Int) := ⟨y.toNat, by omega⟩
            have hib : i < p.bs.length := by omega
            have hibi : (i : Int) < (p.bs.length : Int) := by omega
            refine hK.out _ _ ?_ (fun hHeld => ?_)
            · exact ⟨P0.cell0 rfl, P0.cell0 rfl, by rw [Hfb.out]; exact V.out.cellB⟩
            clear hK K'
            try simp only [Act.put, List.setIfInBounds_toArray, List.set_cons_zero, List.set_cons_succ]
            refine wpAnyH_take (i := 7) (v := ?_) rfl (by kernel_rfl) (by kernel_rfl) (by kernel_rfl) (fun _ _ _ h => h) (Or.inl ⟨by rfl, fun w' hS' => ?_⟩) (by assumption) ?_
            rotate_left
            · (try dsimp only at hS'); go_simp; (try rw [if_pos (by omega)]); try with_reducible rfl
            try simp only [Act.put, List.getElem_toArray, List.getElem_cons_zero, List.getElem_cons_succ, List.setIfInBounds_toArray, List.set_cons_zero, List.set_cons_succ]
            refine wpAnyH_take (i := 8) (v := ?_) rfl (by kernel_rfl) (by kernel_rfl) (by kernel_rfl) (fun _ _ _ h => h) (Or.inl ⟨by rfl, fun w' hS' => ?_⟩) (by assumption) ?_
            rotate_left
            · (try dsimp only at hS'); go_simp; (try rw [if_pos (by omega)]); try with_reducible rfl
            try simp only [Act.put, List.getElem_toArray, List.getElem_cons_zero, List.getElem_cons_succ, List.setIfInBounds_toArray, List.set_cons_zero, List.set_cons_succ]
            refine wpAnyH_ready (rs := [9]) (by kernel_rfl) (by simp) ?_
            refine AllReadyH.cons rfl (fun K' hK => ?_) AllReadyH.nil
            refine if_yes (by rfl) ?_
            try simp only [Act.put, List.setIfInBounds_toArray, List.set_cons_zero, List.set_cons_succ]
            go_simp
            obtain ⟨x2w, hx2w, B0, sx2w, ex2w⟩ := one_box x1w #[.int .i64 0, .int .i64 0, .int .i64 0] 48
            rw [← hx2w.out]
            have lgb := G.out.size
            have P0 := P0.ext ex2w
            have V := Lib.hid (V.out.ext ex2w)
            have R := Lib.hid (R.out.ext ex2w)
            have G := Lib.hid (grown_ext' G.out ex2w)
            have qx2w := (ex2w).size
            obtain ⟨gb, Hgb⟩ : ∃ b, Hid (b = x1w.heap.size) := ⟨_, rfl⟩
            rw [← Hgb.out] at B0 lgb ⊢
            clear ex2w
            refine hK.out _ _ ?_ (fun hHeld => ?_)
            · exact ⟨P0.cell0 rfl, P0.cell0 rfl, by rw [Hfb.out]; exact V.out.cellB⟩
            clear hK K'
            try simp only [Act.put, List.setIfInBounds_toArray, List.set_cons_zero, List.set_cons_succ]
            obtain ⟨rc9, rz9⟩ := (B0).rules; have rl9 := (B0).lt
            refine wpAnyH_ready (rs := [10]) (by kernel_rfl) (by simp) ?_
            refine AllReadyH.cons rfl (fun K' hK => ?_) AllReadyH.nil
            refine if_yes (by rfl) ?_
            try simp only [Act.put, List.setIfInBounds_toArray, List.set_cons_zero, List.set_cons_succ]
            go_simp
            have P0 := P0.far (p := ⟨gb, 0, none⟩) (by dsimp only; omega) (.int .i64 (fb i).f)
            have B0 := B0.set 0 (.int .i64 (fb i).f)
            have V := Lib.hid (V.out.far (grown_set (i := 0) (World.grownBy.refl _ (some gb)) (.int .i64 (fb i).f)) (fun q hq e => by injection e with e; have := Vn q hq; have := Hgb.out; omega))
            have R := Lib.hid (R.out.set (p := ⟨gb, 0, none⟩) (by dsimp only; omega) (by dsimp only; omega) (.int .i64 (fb i).f))
            have G := Lib.hid (grown_set' (k := gb) (i := 0) G.out lgb (.int .i64 (fb i).f))
            have P0 := P0.far (p := ⟨gb, 1, none⟩) (by dsimp only; omega) (.int .i64 (fb i).t)
            have B0 := B0.set 1 (.int .i64 (fb i).t)
            have V := Lib.hid (V.out.far (grown_set (i := 1) (World.grownBy.refl _ (some gb)) (.int .i64 (fb i).t)) (fun q hq e => by injection e with e; have := Vn q hq; have := Hgb.out; omega))
            have R := Lib.hid (R.out.set (p := ⟨gb, 1, none⟩) (by dsimp only; omega) (by dsimp only; omega) (.int .i64 (fb i).t))
            have G := Lib.hid (grown_set' (k := gb) (i := 1) G.out lgb (.int .i64 (fb i).t))
            have P0 := P0.far (p := ⟨gb, 2, none⟩) (by dsimp only; omega) (.int .i64 (fb i).m)
            have B0 := B0.set 2 (.int .i64 (fb i).m)
            have V := Lib.hid (V.out.far (grown_set (i := 2) (World.grownBy.refl _ (some gb)) (.int .i64 (fb i).m)) (fun q hq e => by injection e with e; have := Vn q hq; have := Hgb.out; omega))
            have R := Lib.hid (R.out.set (p := ⟨gb, 2, none⟩) (by dsimp only; omega) (by dsimp only; omega) (.int .i64 (fb i).m))
            have G := Lib.hid (grown_set' (k := gb) (i := 2) G.out lgb (.int .i64 (fb i).m))
            obtain ⟨x3w, hx3w⟩ : ∃ x, Hid (x = (((x2w.setCell ⟨gb, 0, none⟩ (.int .i64 (fb i).f)).setCell ⟨gb, 1, none⟩ (.int .i64 (fb i).t)).setCell ⟨gb, 2, none⟩ (.int .i64 (fb i).m))) := ⟨_, rfl⟩
            rw [← hx3w.out] at P0 B0 V R G ⊢
            clear rc9 rz9 rl9
            refine hK.out _ _ ?_ (fun hHeld => ?_)
            · exact ⟨P0.cell0 rfl, P0.cell0 rfl, by rw [Hfb.out]; exact V.out.cellB⟩
            clear hK K'
            try simp only [Act.put, List.setIfInBounds_toArray, List.set_cons_zero, List.set_cons_succ]
            refine wpAnyH_done (by kernel_rfl) ?_ _
            try simp only [Act.put, List.setIfInBounds_toArray, List.set_cons_zero, List.set_cons_succ]
            go_wp2_with fail
            go_meet
            exact ⟨gb, fb i, rfl, B0, lgb, R.out.mono (by omega), G.out⟩
          · skip
            refine if_yes (by rfl) ?_
            try simp only [Act.put, List.setIfInBounds_toArray, List.set_cons_zero, List.set_cons_succ]
            go_simp
            obtain ⟨x4w, hx4w, B0, sx4w, ex4w⟩ := one_box D #[.int .i64 0, .int .i64 0, .int .i64 0] 48
            rw [← hx4w.out]
            have lgb := G.out.size
            have P0 := P0.ext ex4w
            have V := Lib.hid (V.out.ext ex4w)
            have R := Lib.hid (R.out.ext ex4w)
            have G := Lib.hid (grown_ext' G.out ex4w)
            have qx4w := (ex4w).size
            obtain ⟨gb, Hgb⟩ : ∃ b, Hid (b = D.heap.size) := ⟨_, rfl⟩
            rw [← Hgb.out] at B0 lgb ⊢
            clear ex4w
            refine hK.out _ _ ?_ (fun hHeld => ?_)
            · exact ⟨P0.cell0 rfl, P0.cell0 rfl, by rw [Hfb.out]; exact V.out.cellB⟩
            clear hK K'
            try simp only [Act.put, List.setIfInBounds_toArray, List.set_cons_zero, List.set_cons_succ]
            refine wpAnyH_ready (rs := [6]) (by kernel_rfl) (by simp) ?_
            refine AllReadyH.cons rfl (fun K' hK => ?_) AllReadyH.nil
            refine if_yes (by rfl) ?_
            try simp only [Act.put, List.setIfInBounds_toArray, List.set_cons_zero, List.set_cons_succ]
            go_simp
            refine (spec_pick B g _ p.bs.length _ R.out (by omega)).mono ?_
            rintro e x5w ⟨y, rfl, hy0, hy1, hr, hgw, -⟩
            have P0 := P0.near hgw (by omega)
            have B0 := B0.near hgw (by omega)
            have V := Lib.hid (V.out.near hgw (by omega))
            have G := Lib.hid (grown_trans' G.out hgw)
            have R := Lib.hid hr
            have qx5w := hgw.size
            clear hr hgw
            go_wp2_with fail
            obtain ⟨i, rfl⟩ : ∃ i : Nat, y = (i : Int) := ⟨y.toNat, by omega⟩
            have hib : i < p.bs.length := by omega
            have hibi : (i : Int) < (p.bs.length : Int) := by omega
            refine hK.out _ _ ?_ (fun hHeld => ?_)
            · exact ⟨P0.cell0 rfl, P0.cell0 rfl, by rw [Hfb.out]; exact V.out.cellB⟩
            clear hK K'
            try simp only [Act.put, List.setIfInBounds_toArray, List.set_cons_zero, List.set_cons_succ]
            refine wpAnyH_take (i := 7) (v := ?_) rfl (by kernel_rfl) (by kernel_rfl) (by kernel_rfl) (fun _ _ _ h => h) (Or.inl ⟨by rfl, fun w' hS' => ?_⟩) (by assumption) ?_
            rotate_left
            · (try dsimp only at hS'); go_simp; (try rw [if_pos (by omega)]); try with_reducible rfl
            try simp only [Act.put, List.getElem_toArray, List.getElem_cons_zero, List.getElem_cons_succ, List.setIfInBounds_toArray, List.set_cons_zero, List.set_cons_succ]
            refine wpAnyH_take (i := 8) (v := ?_) rfl (by kernel_rfl) (by kernel_rfl) (by kernel_rfl) (fun _ _ _ h => h) (Or.inl ⟨by rfl, fun w' hS' => ?_⟩) (by assumption) ?_
            rotate_left
            · (try dsimp only at hS'); go_simp; (try rw [if_pos (by omega)]); try with_reducible rfl
            try simp only [Act.put, List.getElem_toArray, List.getElem_cons_zero, List.getElem_cons_succ, List.setIfInBounds_toArray, List.set_cons_zero, List.set_cons_succ]
            obtain ⟨rc9, rz9⟩ := (B0).rules; have rl9 := (B0).lt
            refine wpAnyH_ready (rs := [10]) (by kernel_rfl) (by simp) ?_
            refine AllReadyH.cons rfl (fun K' hK => ?_) AllReadyH.nil
            refine if_yes (by rfl) ?_
            try simp only [Act.put, List.setIfInBounds_toArray, List.set_cons_zero, List.set_cons_succ]
            go_simp
            have P0 := P0.far (p := ⟨gb, 0, none⟩) (by dsimp only; omega) (.int .i64 (fb i).f)
            have B0 := B0.set 0 (.int .i64 (fb i).f)
            have V := Lib.hid (V.out.far (grown_set (i := 0) (World.grownBy.refl _ (some gb)) (.int .i64 (fb i).f)) (fun q hq e => by injection e with e; have := Vn q hq; have := Hgb.out; omega))
            have R := Lib.hid (R.out.set (p := ⟨gb, 0, none⟩) (by dsimp only; omega) (by dsimp only; omega) (.int .i64 (fb i).f))
            have G := Lib.hid (grown_set' (k := gb) (i := 0) G.out lgb (.int .i64 (fb i).f))
            have P0 := P0.far (p := ⟨gb, 1, none⟩) (by dsimp only; omega) (.int .i64 (fb i).t)
            have B0 := B0.set 1 (.int .i64 (fb i).t)
            have V := Lib.hid (V.out.far (grown_set (i := 1) (World.grownBy.refl _ (some gb)) (.int .i64 (fb i).t)) (fun q hq e => by injection e with e; have := Vn q hq; have := Hgb.out; omega))
            have R := Lib.hid (R.out.set (p := ⟨gb, 1, none⟩) (by dsimp only; omega) (by dsimp only; omega) (.int .i64 (fb i).t))
            have G := Lib.hid (grown_set' (k := gb) (i := 1) G.out lgb (.int .i64 (fb i).t))
            have P0 := P0.far (p := ⟨gb, 2, none⟩) (by dsimp only; omega) (.int .i64 (fb i).m)
            have B0 := B0.set 2 (.int .i64 (fb i).m)
            have V := Lib.hid (V.out.far (grown_set (i := 2) (World.grownBy.refl _ (some gb)) (.int .i64 (fb i).m)) (fun q hq e => by injection e with e; have := Vn q hq; have := Hgb.out; omega))
            have R := Lib.hid (R.out.set (p := ⟨gb, 2, none⟩) (by dsimp only; omega) (by dsimp only; omega) (.int .i64 (fb i).m))
            have G := Lib.hid (grown_set' (k := gb) (i := 2) G.out lgb (.int .i64 (fb i).m))
            obtain ⟨x6w, hx6w⟩ : ∃ x, Hid (x = (((x5w.setCell ⟨gb, 0, none⟩ (.int .i64 (fb i).f)).setCell ⟨gb, 1, none⟩ (.int .i64 (fb i).t)).setCell ⟨gb, 2, none⟩ (.int .i64 (fb i).m))) := ⟨_, rfl⟩
            rw [← hx6w.out] at P0 B0 V R G ⊢
            clear rc9 rz9 rl9
            refine hK.out _ _ ?_ (fun hHeld => ?_)
            · exact ⟨P0.cell0 rfl, P0.cell0 rfl, by rw [Hfb.out]; exact V.out.cellB⟩
            clear hK K'
            try simp only [Act.put, List.setIfInBounds_toArray, List.set_cons_zero, List.set_cons_succ]
            refine wpAnyH_done (by kernel_rfl) ?_ _
            try simp only [Act.put, List.setIfInBounds_toArray, List.set_cons_zero, List.set_cons_succ]
            go_wp2_with fail
            go_meet
            exact ⟨gb, fb i, rfl, B0, lgb, R.out.mono (by omega), G.out⟩
        rename World => wt
        obtain ⟨gb, b, rfl, B0, hgb, hr, hgw⟩ := hcut
        have R := Lib.hid hr
        have G := Lib.hid (grown_trans' Gw.out hgw)
        have R0 := R0.near hgw (by omega)
        have P0 := P0.near hgw (by omega)
        have V := Lib.hid (V.out.near hgw (by omega))
        have qt := hgw.size
        have hB0l := B0.lt
        clear hr hgw Gw
        go_upto_region 4 with fail
        obtain ⟨ws2, hws2⟩ : ∃ ws2, ws2 = wt := ⟨_, rfl⟩
        subst hws2
        have Gw := G
        clear G
        go_cut [7, 8] (fun v7 v8 wx => OutPl ws2 B g (m + 210) v7 v8 wx)
        case first =>
          have Vn : ∀ q, (Value.slice (some ⟨gv, 0, none⟩) p.bs.length cv).ownBlock = some q → q < ws2.heap.size := fun q hq => (V.out.lt q hq).2
          have G : Hid (ws2.grownBy ws2 (some g)) := Lib.hid (World.grownBy.refl _ _)
          refine wp_region_held_drew (S := fun w' => w'.cell? ⟨w1.heap.size, 0, none⟩ = some (Value.int .i64 p.pts) ∧ w'.cell? ⟨w1.heap.size, 1, none⟩ = some (Value.slice (some ⟨gv, 0, none⟩) p.bs.length cv) ∧ w'.cell? ⟨gb, 0, none⟩ = some (Value.int .i64 b.f) ∧ w'.cell? ⟨gb, 1, none⟩ = some (Value.int .i64 b.t) ∧ w'.cell? ⟨gb, 2, none⟩ = some (Value.int .i64 b.m)) (by kernel_rfl) ?_ (fun hHeld => ?_)
          · exact ⟨P0.cell0 rfl, P0.cell0 rfl, B0.cell0 rfl, B0.cell0 rfl, B0.cell0 rfl⟩
          have G := Lib.hid (grown_drew' G.out)
          have R := Lib.hid R.out.drew
          have V := Lib.hid V.out.drew
          have P0 := P0.drew
          have B0 := B0.drew
          obtain ⟨D, hD⟩ : ∃ D, Hid (D = ws2.drew) := ⟨_, rfl⟩
          have qD : ws2.heap.size ≤ D.heap.size := by rw [hD.out]; exact Nat.le_refl _
          rw [← hD.out] at G R V P0 B0 hHeld ⊢
          try simp only [Act.put, List.setIfInBounds_toArray, List.set_cons_zero, List.set_cons_succ]
          refine wpAnyH_take (i := 0) (v := ?_) rfl (by kernel_rfl) (by kernel_rfl) (by kernel_rfl) (fun _ _ _ h => h) (Or.inl ⟨by rfl, fun w' hS' => ?_⟩) (by assumption) ?_
          rotate_left
          · (try dsimp only at hS'); go_simp; (try rw [if_pos (by omega)]); try with_reducible rfl
          try simp only [Act.put, List.getElem_toArray, List.getElem_cons_zero, List.getElem_cons_succ, List.setIfInBounds_toArray, List.set_cons_zero, List.set_cons_succ]
          refine wpAnyH_take (i := 1) (v := ?_) rfl (by kernel_rfl) (by kernel_rfl) (by kernel_rfl) (fun _ _ _ h => h) (Or.inl ⟨by rfl, fun w' hS' => ?_⟩) (by assumption) ?_
          rotate_left
          · (try dsimp only at hS'); go_simp; (try rw [if_pos (by omega)]); try with_reducible rfl
          try simp only [Act.put, List.getElem_toArray, List.getElem_cons_zero, List.getElem_cons_succ, List.setIfInBounds_toArray, List.set_cons_zero, List.set_cons_succ]
          refine wpAnyH_take (i := 2) (v := ?_) rfl (by kernel_rfl) (by kernel_rfl) (by kernel_rfl) (fun _ _ _ h => h) (Or.inl ⟨by rfl, fun w' hS' => ?_⟩) (by assumption) ?_
          rotate_left
          · (try dsimp only at hS'); go_simp; (try rw [if_pos (by omega)]); try with_reducible rfl
          try simp only [Act.put, List.getElem_toArray, List.getElem_cons_zero, List.getElem_cons_succ, List.setIfInBounds_toArray, List.set_cons_zero, List.set_cons_succ]
          refine wpAnyH_take (i := 3) (v := ?_) rfl (by kernel_rfl) (by kernel_rfl) (by kernel_rfl) (fun _ _ _ h => h) (Or.inl ⟨by rfl, fun w' hS' => ?_⟩) (by assumption) ?_
          rotate_left
          · (try dsimp only at hS'); go_simp; (try rw [if_pos (by omega)]); try with_reducible rfl
          try simp only [Act.put, List.getElem_toArray, List.getElem_cons_zero, List.getElem_cons_succ, List.setIfInBounds_toArray, List.set_cons_zero, List.set_cons_succ]
          refine wpAnyH_take (i := 4) (v := ?_) rfl (by kernel_rfl) (by kernel_rfl) (by kernel_rfl) (fun _ _ _ h => h) (Or.inl ⟨by rfl, fun w' hS' => ?_⟩) (by assumption) ?_
          rotate_left
          · (try dsimp only at hS'); go_simp; (try rw [if_pos (by omega)]); try with_reducible rfl
          try simp only [Act.put, List.getElem_toArray, List.getElem_cons_zero, List.getElem_cons_succ, List.setIfInBounds_toArray, List.set_cons_zero, List.set_cons_succ]
          refine wpAnyH_take (i := 5) (v := ?_) rfl (by kernel_rfl) (by kernel_rfl) (by kernel_rfl) (fun _ _ _ h => h) (Or.inl ⟨by rfl, fun w' hS' => ?_⟩) (by assumption) ?_
          rotate_left
          · (try dsimp only at hS'); go_simp; (try rw [if_pos (by omega)]); try with_reducible rfl
          try simp only [Act.put, List.getElem_toArray, List.getElem_cons_zero, List.getElem_cons_succ, List.setIfInBounds_toArray, List.set_cons_zero, List.set_cons_succ]
          refine wpAnyH_take (i := 6) (v := ?_) rfl (by kernel_rfl) (by kernel_rfl) (by kernel_rfl) (fun _ _ _ h => h) (Or.inl ⟨by rfl, fun w' hS' => ?_⟩) (by assumption) ?_
          rotate_left
          · (try dsimp only at hS'); go_simp; (try rw [if_pos (by omega)]); try with_reducible rfl
          try simp only [Act.put, List.getElem_toArray, List.getElem_cons_zero, List.getElem_cons_succ, List.setIfInBounds_toArray, List.set_cons_zero, List.set_cons_succ]
          refine wpAnyH_take (i := 7) (v := ?_) rfl (by kernel_rfl) (by kernel_rfl) (by kernel_rfl) (fun _ _ _ h => h) (Or.inl ⟨by rfl, fun w' hS' => ?_⟩) (by assumption) ?_
          rotate_left
          · (try dsimp only at hS'); go_simp; (try rw [if_pos (by omega)]); try with_reducible rfl
          try simp only [Act.put, List.getElem_toArray, List.getElem_cons_zero, List.getElem_cons_succ, List.setIfInBounds_toArray, List.set_cons_zero, List.set_cons_succ]
          refine wpAnyH_take (i := 8) (v := ?_) rfl (by kernel_rfl) (by kernel_rfl) (by kernel_rfl) (fun _ _ _ h => h) (Or.inl ⟨by rfl, fun w' hS' => ?_⟩) (by assumption) ?_
          rotate_left
          · (try dsimp only at hS'); go_simp; (try rw [if_pos (by omega)]); try with_reducible rfl
          try simp only [Act.put, List.getElem_toArray, List.getElem_cons_zero, List.getElem_cons_succ, List.setIfInBounds_toArray, List.set_cons_zero, List.set_cons_succ]
          refine wpAnyH_ready (rs := [9, 16]) (by kernel_rfl) (by simp) ?_
          refine AllReadyH.cons rfl (fun K' hK => ?_) (AllReadyH.cons rfl (fun K' hK => ?_) AllReadyH.nil)
          · skip
            refine if_yes (by rfl) ?_
            try simp only [Act.put, List.setIfInBounds_toArray, List.set_cons_zero, List.set_cons_succ]
            go_simp
            refine (spec_pick B g _ 4 _ R.out (by omega)).mono ?_
            rintro e x7w ⟨y, rfl, hy0, hy1, hr, hgw, -⟩
            have P0 := P0.near hgw (by omega)
            have B0 := B0.near hgw (by omega)
            have V := Lib.hid (V.out.near hgw (by omega))
            have G := Lib.hid (grown_trans' G.out hgw)
            have R := Lib.hid hr
            have qx7w := hgw.size
            clear hr hgw
            go_wp2_with fail
            refine hK.out _ _ ?_ (fun hHeld => ?_)
            · exact ⟨P0.cell0 rfl, P0.cell0 rfl, B0.cell0 rfl, B0.cell0 rfl, B0.cell0 rfl⟩
            clear hK K'
            try simp only [Act.put, List.setIfInBounds_toArray, List.set_cons_zero, List.set_cons_succ]
            refine wpAnyH_take (i := 10) (v := ?_) rfl (by kernel_rfl) (by kernel_rfl) (by kernel_rfl) (fun _ _ _ h => h) (Or.inl ⟨by rfl, fun w' hS' => ?_⟩) (by assumption) ?_
            rotate_left
            · (try dsimp only at hS'); go_simp; (try rw [if_pos (by omega)]); try with_reducible rfl
            try simp only [Act.put, List.getElem_toArray, List.getElem_cons_zero, List.getElem_cons_succ, List.setIfInBounds_toArray, List.set_cons_zero, List.set_cons_succ]
            refine wpAnyH_take (i := 11) (v := ?_) rfl (by kernel_rfl) (by kernel_rfl) (by kernel_rfl) (fun _ _ _ h => h) (Or.inl ⟨by rfl, fun w' hS' => ?_⟩) (by assumption) ?_
            rotate_left
            · (try dsimp only at hS'); go_simp; (try rw [if_pos (by omega)]); try with_reducible rfl
            try simp only [Act.put, List.getElem_toArray, List.getElem_cons_zero, List.getElem_cons_succ, List.setIfInBounds_toArray, List.set_cons_zero, List.set_cons_succ]
            refine wpAnyH_ready (rs := [12, 16]) (by kernel_rfl) (by simp) ?_
            refine AllReadyH.cons rfl (fun K' hK => ?_) (AllReadyH.cons rfl (fun K' hK => ?_) AllReadyH.nil)
            · skip
              refine if_yes (by rfl) ?_
              try simp only [Act.put, List.setIfInBounds_toArray, List.set_cons_zero, List.set_cons_succ]
              go_simp
              refine (spec_WithBoundS p _ _ _ _ _ (V.out.base (Nat.zero_le _)) (by omega)).mono ?_
              rintro e x8w ⟨P, sv, ok, rfl, hPr, hPok, hbx⟩
              have P0 := P0.ext hbx
              have B0 := B0.ext hbx
              have V := Lib.hid (V.out.ext hbx)
              have R := Lib.hid (R.out.ext hbx)
              have G := Lib.hid (grown_ext' G.out hbx)
              have qx8w := hbx.size
              have Pr := Lib.hid (hPr.base (show ws2.heap.size ≤ x7w.heap.size from by have := G.out.size; omega))
              obtain ⟨aw, cw, rfl, -⟩ := hPr.open
              have Prn : ∀ q, (Value.slice aw P.bs.length cw).ownBlock = some q → x7w.heap.size ≤ q ∧ q < x8w.heap.size := fun q hq => hPr.lt q hq
              have Hok := Lib.hid hPok
              clear hPr hbx hPok
              go_wp2_with fail
              refine hK.out _ _ ?_ (fun hHeld => ?_)
              · exact ⟨P0.cell0 rfl, P0.cell0 rfl, B0.cell0 rfl, B0.cell0 rfl, B0.cell0 rfl⟩
              clear hK K'
              try simp only [Act.put, List.setIfInBounds_toArray, List.set_cons_zero, List.set_cons_succ]
              refine wpAnyH_take (i := 13) (v := ?_) rfl (by kernel_rfl) (by kernel_rfl) (by kernel_rfl) (fun _ _ _ h => h) (Or.inl ⟨by rfl, fun w' hS' => ?_⟩) (by assumption) ?_
              rotate_left
              · (try dsimp only at hS'); go_simp; (try rw [if_pos (by omega)]); try with_reducible rfl
              try simp only [Act.put, List.getElem_toArray, List.getElem_cons_zero, List.getElem_cons_succ, List.setIfInBounds_toArray, List.set_cons_zero, List.set_cons_succ]
              refine wpAnyH_take (i := 14) (v := ?_) rfl (by kernel_rfl) (by kernel_rfl) (by kernel_rfl) (fun _ _ _ h => h) (Or.inl ⟨by rfl, fun w' hS' => ?_⟩) (by assumption) ?_
              rotate_left
              · (try dsimp only at hS'); go_simp; (try rw [if_pos (by omega)]); try with_reducible rfl
              try simp only [Act.put, List.getElem_toArray, List.getElem_cons_zero, List.getElem_cons_succ, List.setIfInBounds_toArray, List.set_cons_zero, List.set_cons_succ]
              refine wpAnyH_take (i := 15) (v := ?_) rfl (by kernel_rfl) (by kernel_rfl) (by kernel_rfl) (fun _ _ _ h => h) (Or.inl ⟨by rfl, fun w' hS' => ?_⟩) (by assumption) ?_
              rotate_left
              · (try dsimp only at hS'); go_simp; (try rw [if_pos (by omega)]); try with_reducible rfl
              try simp only [Act.put, List.getElem_toArray, List.getElem_cons_zero, List.getElem_cons_succ, List.setIfInBounds_toArray, List.set_cons_zero, List.set_cons_succ]
              refine wpAnyH_ready (rs := [16]) (by kernel_rfl) (by simp) ?_
              refine AllReadyH.cons rfl (fun K' hK => ?_) AllReadyH.nil
              refine if_yes (by rfl) ?_
              try simp only [Act.put, List.setIfInBounds_toArray, List.set_cons_zero, List.set_cons_succ]
              go_simp
              obtain ⟨x9w, hx9w, Q0, sx9w, ex9w⟩ := one_box x8w #[.int .i64 0, .slice none 0 0] 25
              rw [← hx9w.out]
              have lgo := G.out.size
              have P0 := P0.ext ex9w
              have B0 := B0.ext ex9w
              have V := Lib.hid (V.out.ext ex9w)
              have Pr := Lib.hid (Pr.out.ext ex9w)
              have R := Lib.hid (R.out.ext ex9w)
              have G := Lib.hid (grown_ext' G.out ex9w)
              have qx9w := (ex9w).size
              obtain ⟨go, Hgo⟩ : ∃ b, Hid (b = x8w.heap.size) := ⟨_, rfl⟩
              rw [← Hgo.out] at Q0 lgo ⊢
              clear ex9w
              refine hK.out _ _ ?_ (fun hHeld => ?_)
              · exact ⟨P0.cell0 rfl, P0.cell0 rfl, B0.cell0 rfl, B0.cell0 rfl, B0.cell0 rfl⟩
              clear hK K'
              try simp only [Act.put, List.setIfInBounds_toArray, List.set_cons_zero, List.set_cons_succ]
              obtain ⟨rc9, rz9⟩ := (Q0).rules; have rl9 := (Q0).lt
              refine wpAnyH_ready (rs := [17]) (by kernel_rfl) (by simp) ?_
              refine AllReadyH.cons rfl (fun K' hK => ?_) AllReadyH.nil
              refine if_yes (by rfl) ?_
              try simp only [Act.put, List.setIfInBounds_toArray, List.set_cons_zero, List.set_cons_succ]
              go_simp
              have P0 := P0.far (p := ⟨go, 0, none⟩) (by dsimp only; omega) (.int .i64 P.pts)
              have B0 := B0.far (p := ⟨go, 0, none⟩) (by dsimp only; omega) (.int .i64 P.pts)
              have Q0 := Q0.set 0 (.int .i64 P.pts)
              have V := Lib.hid (V.out.far (grown_set (i := 0) (World.grownBy.refl _ (some go)) (.int .i64 P.pts)) (fun q hq e => by injection e with e; have := Vn q hq; have := Hgo.out; omega))
              have Pr := Lib.hid (Pr.out.far (grown_set (i := 0) (World.grownBy.refl _ (some go)) (.int .i64 P.pts)) (fun q hq e => by injection e with e; have := Prn q hq; have := Hgo.out; omega))
              have R := Lib.hid (R.out.set (p := ⟨go, 0, none⟩) (by dsimp only; omega) (by dsimp only; omega) (.int .i64 P.pts))
              have G := Lib.hid (grown_set' (k := go) (i := 0) G.out lgo (.int .i64 P.pts))
              have P0 := P0.far (p := ⟨go, 1, none⟩) (by dsimp only; omega) (.slice aw P.bs.length cw)
              have B0 := B0.far (p := ⟨go, 1, none⟩) (by dsimp only; omega) (.slice aw P.bs.length cw)
              have Q0 := Q0.set 1 (.slice aw P.bs.length cw)
              have V := Lib.hid (V.out.far (grown_set (i := 1) (World.grownBy.refl _ (some go)) (.slice aw P.bs.length cw)) (fun q hq e => by injection e with e; have := Vn q hq; have := Hgo.out; omega))
              have Pr := Lib.hid (Pr.out.far (grown_set (i := 1) (World.grownBy.refl _ (some go)) (.slice aw P.bs.length cw)) (fun q hq e => by injection e with e; have := Prn q hq; have := Hgo.out; omega))
              have R := Lib.hid (R.out.set (p := ⟨go, 1, none⟩) (by dsimp only; omega) (by dsimp only; omega) (.slice aw P.bs.length cw))
              have G := Lib.hid (grown_set' (k := go) (i := 1) G.out lgo (.slice aw P.bs.length cw))
              obtain ⟨x10w, hx10w⟩ : ∃ x, Hid (x = ((x9w.setCell ⟨go, 0, none⟩ (.int .i64 P.pts)).setCell ⟨go, 1, none⟩ (.slice aw P.bs.length cw))) := ⟨_, rfl⟩
              rw [← hx10w.out] at P0 B0 Q0 V Pr R G ⊢
              clear rc9 rz9 rl9
              refine hK.out _ _ ?_ (fun hHeld => ?_)
              · exact ⟨P0.cell0 rfl, P0.cell0 rfl, B0.cell0 rfl, B0.cell0 rfl, B0.cell0 rfl⟩
              clear hK K'
              try simp only [Act.put, List.setIfInBounds_toArray, List.set_cons_zero, List.set_cons_succ]
              refine wpAnyH_take (i := 18) (v := ?_) rfl (by kernel_rfl) (by kernel_rfl) (by kernel_rfl) (fun _ _ _ h => h) (Or.inl ⟨by rfl, fun w' hS' => ?_⟩) (by assumption) ?_
              rotate_left
              · (try dsimp only at hS'); go_simp; (try rw [if_pos (by omega)]); try with_reducible rfl
              try simp only [Act.put, List.getElem_toArray, List.getElem_cons_zero, List.getElem_cons_succ, List.setIfInBounds_toArray, List.set_cons_zero, List.set_cons_succ]
              refine wpAnyH_done (by kernel_rfl) ?_ _
              try simp only [Act.put, List.setIfInBounds_toArray, List.set_cons_zero, List.set_cons_succ]
              go_wp2_with fail
              go_meet
              exact ⟨go, P, _, ok, rfl, rfl, Q0, lgo, Pr.out, Hok.out, R.out.mono (by omega), G.out⟩
            · skip
              refine if_yes (by rfl) ?_
              try simp only [Act.put, List.setIfInBounds_toArray, List.set_cons_zero, List.set_cons_succ]
              go_simp
              obtain ⟨x11w, hx11w, Q0, sx11w, ex11w⟩ := one_box x7w #[.int .i64 0, .slice none 0 0] 25
              rw [← hx11w.out]
              have lgo := G.out.size
              have P0 := P0.ext ex11w
              have B0 := B0.ext ex11w
              have V := Lib.hid (V.out.ext ex11w)
              have R := Lib.hid (R.out.ext ex11w)
              have G := Lib.hid (grown_ext' G.out ex11w)
              have qx11w := (ex11w).size
              obtain ⟨go, Hgo⟩ : ∃ b, Hid (b = x7w.heap.size) := ⟨_, rfl⟩
              rw [← Hgo.out] at Q0 lgo ⊢
              clear ex11w
              refine hK.out _ _ ?_ (fun hHeld => ?_)
              · exact ⟨P0.cell0 rfl, P0.cell0 rfl, B0.cell0 rfl, B0.cell0 rfl, B0.cell0 rfl⟩
              clear hK K'
              try simp only [Act.put, List.setIfInBounds_toArray, List.set_cons_zero, List.set_cons_succ]
              refine wpAnyH_ready (rs := [12]) (by kernel_rfl) (by simp) ?_
              refine AllReadyH.cons rfl (fun K' hK => ?_) AllReadyH.nil
              refine if_yes (by rfl) ?_
              try simp only [Act.put, List.setIfInBounds_toArray, List.set_cons_zero, List.set_cons_succ]
              go_simp
              refine (spec_WithBoundS p _ _ _ _ _ (V.out.base (Nat.zero_le _)) (by omega)).mono ?_
              rintro e x12w ⟨P, sv, ok, rfl, hPr, hPok, hbx⟩
              have P0 := P0.ext hbx
              have B0 := B0.ext hbx
              have Q0 := Q0.ext hbx
              have V := Lib.hid (V.out.ext hbx)
              have R := Lib.hid (R.out.ext hbx)
              have G := Lib.hid (grown_ext' G.out hbx)
              have qx12w := hbx.size
              have Pr := Lib.hid (hPr.base (show ws2.heap.size ≤ x11w.heap.size from by have := G.out.size; omega))
              obtain ⟨aw, cw, rfl, -⟩ := hPr.open
              have Prn : ∀ q, (Value.slice aw P.bs.length cw).ownBlock = some q → x11w.heap.size ≤ q ∧ q < x12w.heap.size := fun q hq => hPr.lt q hq
              have Hok := Lib.hid hPok
              clear hPr hbx hPok
              go_wp2_with fail
              refine hK.out _ _ ?_ (fun hHeld => ?_)
              · exact ⟨P0.cell0 rfl, P0.cell0 rfl, B0.cell0 rfl, B0.cell0 rfl, B0.cell0 rfl⟩
              clear hK K'
              try simp only [Act.put, List.setIfInBounds_toArray, List.set_cons_zero, List.set_cons_succ]
              refine wpAnyH_take (i := 13) (v := ?_) rfl (by kernel_rfl) (by kernel_rfl) (by kernel_rfl) (fun _ _ _ h => h) (Or.inl ⟨by rfl, fun w' hS' => ?_⟩) (by assumption) ?_
              rotate_left
              · (try dsimp only at hS'); go_simp; (try rw [if_pos (by omega)]); try with_reducible rfl
              try simp only [Act.put, List.getElem_toArray, List.getElem_cons_zero, List.getElem_cons_succ, List.setIfInBounds_toArray, List.set_cons_zero, List.set_cons_succ]
              refine wpAnyH_take (i := 14) (v := ?_) rfl (by kernel_rfl) (by kernel_rfl) (by kernel_rfl) (fun _ _ _ h => h) (Or.inl ⟨by rfl, fun w' hS' => ?_⟩) (by assumption) ?_
              rotate_left
              · (try dsimp only at hS'); go_simp; (try rw [if_pos (by omega)]); try with_reducible rfl
              try simp only [Act.put, List.getElem_toArray, List.getElem_cons_zero, List.getElem_cons_succ, List.setIfInBounds_toArray, List.set_cons_zero, List.set_cons_succ]
              refine wpAnyH_take (i := 15) (v := ?_) rfl (by kernel_rfl) (by kernel_rfl) (by kernel_rfl) (fun _ _ _ h => h) (Or.inl ⟨by rfl, fun w' hS' => ?_⟩) (by assumption) ?_
              rotate_left
              · (try dsimp only at hS'); go_simp; (try rw [if_pos (by omega)]); try with_reducible rfl
              try simp only [Act.put, List.getElem_toArray, List.getElem_cons_zero, List.getElem_cons_succ, List.setIfInBounds_toArray, List.set_cons_zero, List.set_cons_succ]
              obtain ⟨rc9, rz9⟩ := (Q0).rules; have rl9 := (Q0).lt
              refine wpAnyH_ready (rs := [17]) (by kernel_rfl) (by simp) ?_
              refine AllReadyH.cons rfl (fun K' hK => ?_) AllReadyH.nil
              refine if_yes (by rfl) ?_
              try simp only [Act.put, List.setIfInBounds_toArray, List.set_cons_zero, List.set_cons_succ]
              go_simp
              have P0 := P0.far (p := ⟨go, 0, none⟩) (by dsimp only; omega) (.int .i64 P.pts)
              have B0 := B0.far (p := ⟨go, 0, none⟩) (by dsimp only; omega) (.int .i64 P.pts)
              have Q0 := Q0.set 0 (.int .i64 P.pts)
              have V := Lib.hid (V.out.far (grown_set (i := 0) (World.grownBy.refl _ (some go)) (.int .i64 P.pts)) (fun q hq e => by injection e with e; have := Vn q hq; have := Hgo.out; omega))
              have Pr := Lib.hid (Pr.out.far (grown_set (i := 0) (World.grownBy.refl _ (some go)) (.int .i64 P.pts)) (fun q hq e => by injection e with e; have := Prn q hq; have := Hgo.out; omega))
              have R := Lib.hid (R.out.set (p := ⟨go, 0, none⟩) (by dsimp only; omega) (by dsimp only; omega) (.int .i64 P.pts))
              have G := Lib.hid (grown_set' (k := go) (i := 0) G.out lgo (.int .i64 P.pts))
              have P0 := P0.far (p := ⟨go, 1, none⟩) (by dsimp only; omega) (.slice aw P.bs.length cw)
              have B0 := B0.far (p := ⟨go, 1, none⟩) (by dsimp only; omega) (.slice aw P.bs.length cw)
              have Q0 := Q0.set 1 (.slice aw P.bs.length cw)
              have V := Lib.hid (V.out.far (grown_set (i := 1) (World.grownBy.refl _ (some go)) (.slice aw P.bs.length cw)) (fun q hq e => by injection e with e; have := Vn q hq; have := Hgo.out; omega))
              have Pr := Lib.hid (Pr.out.far (grown_set (i := 1) (World.grownBy.refl _ (some go)) (.slice aw P.bs.length cw)) (fun q hq e => by injection e with e; have := Prn q hq; have := Hgo.out; omega))
              have R := Lib.hid (R.out.set (p := ⟨go, 1, none⟩) (by dsimp only; omega) (by dsimp only; omega) (.slice aw P.bs.length cw))
              have G := Lib.hid (grown_set' (k := go) (i := 1) G.out lgo (.slice aw P.bs.length cw))
              obtain ⟨x13w, hx13w⟩ : ∃ x, Hid (x = ((x12w.setCell ⟨go, 0, none⟩ (.int .i64 P.pts)).setCell ⟨go, 1, none⟩ (.slice aw P.bs.length cw))) := ⟨_, rfl⟩
              rw [← hx13w.out] at P0 B0 Q0 V Pr R G ⊢
              clear rc9 rz9 rl9
              refine hK.out _ _ ?_ (fun hHeld => ?_)
              · exact ⟨P0.cell0 rfl, P0.cell0 rfl, B0.cell0 rfl, B0.cell0 rfl, B0.cell0 rfl⟩
              clear hK K'
              try simp only [Act.put, List.setIfInBounds_toArray, List.set_cons_zero, List.set_cons_succ]
              refine wpAnyH_take (i := 18) (v := ?_) rfl (by kernel_rfl) (by kernel_rfl) (by kernel_rfl) (fun _ _ _ h => h) (Or.inl ⟨by rfl, fun w' hS' => ?_⟩) (by assumption) ?_
              rotate_left
              · (try dsimp only at hS'); go_simp; (try rw [if_pos (by omega)]); try with_reducible rfl
              try simp only [Act.put, List.getElem_toArray, List.getElem_cons_zero, List.getElem_cons_succ, List.setIfInBounds_toArray, List.set_cons_zero, List.set_cons_succ]
              refine wpAnyH_done (by kernel_rfl) ?_ _
              try simp only [Act.put, List.setIfInBounds_toArray, List.set_cons_zero, List.set_cons_succ]
              go_wp2_with fail
              go_meet
              exact ⟨go, P, _, ok, rfl, rfl, Q0, lgo, Pr.out, Hok.out, R.out.mono (by omega), G.out⟩
          · skip
            refine if_yes (by rfl) ?_
            try simp only [Act.put, List.setIfInBounds_toArray, List.set_cons_zero, List.set_cons_succ]
            go_simp
            obtain ⟨x14w, hx14w, Q0, sx14w, ex14w⟩ := one_box D #[.int .i64 0, .slice none 0 0] 25
            rw [← hx14w.out]
            have lgo := G.out.size
            have P0 := P0.ext ex14w
            have B0 := B0.ext ex14w
            have V := Lib.hid (V.out.ext ex14w)
            have R := Lib.hid (R.out.ext ex14w)
            have G := Lib.hid (grown_ext' G.out ex14w)
            have qx14w := (ex14w).size
            obtain ⟨go, Hgo⟩ : ∃ b, Hid (b = D.heap.size) := ⟨_, rfl⟩
            rw [← Hgo.out] at Q0 lgo ⊢
            clear ex14w
            refine hK.out _ _ ?_ (fun hHeld => ?_)
            · exact ⟨P0.cell0 rfl, P0.cell0 rfl, B0.cell0 rfl, B0.cell0 rfl, B0.cell0 rfl⟩
            clear hK K'
            try simp only [Act.put, List.setIfInBounds_toArray, List.set_cons_zero, List.set_cons_succ]
            refine wpAnyH_ready (rs := [9]) (by kernel_rfl) (by simp) ?_
            refine AllReadyH.cons rfl (fun K' hK => ?_) AllReadyH.nil
            refine if_yes (by rfl) ?_
            try simp only [Act.put, List.setIfInBounds_toArray, List.set_cons_zero, List.set_cons_succ]
            go_simp
            refine (spec_pick B g _ 4 _ R.out (by omega)).mono ?_
            rintro e x15w ⟨y, rfl, hy0, hy1, hr, hgw, -⟩
            have P0 := P0.near hgw (by omega)
            have B0 := B0.near hgw (by omega)
            have Q0 := Q0.near hgw (by omega)
            have V := Lib.hid (V.out.near hgw (by omega))
            have G := Lib.hid (grown_trans' G.out hgw)
            have R := Lib.hid hr
            have qx15w := hgw.size
            clear hr hgw
            go_wp2_with fail
            refine hK.out _ _ ?_ (fun hHeld => ?_)
            · exact ⟨P0.cell0 rfl, P0.cell0 rfl, B0.cell0 rfl, B0.cell0 rfl, B0.cell0 rfl⟩
            clear hK K'
            try simp only [Act.put, List.setIfInBounds_toArray, List.set_cons_zero, List.set_cons_succ]
            refine wpAnyH_take (i := 10) (v := ?_) rfl (by kernel_rfl) (by kernel_rfl) (by kernel_rfl) (fun _ _ _ h => h) (Or.inl ⟨by rfl, fun w' hS' => ?_⟩) (by assumption) ?_
            rotate_left
            · (try dsimp only at hS'); go_simp; (try rw [if_pos (by omega)]); try with_reducible rfl
            try simp only [Act.put, List.getElem_toArray, List.getElem_cons_zero, List.getElem_cons_succ, List.setIfInBounds_toArray, List.set_cons_zero, List.set_cons_succ]
            refine wpAnyH_take (i := 11) (v := ?_) rfl (by kernel_rfl) (by kernel_rfl) (by kernel_rfl) (fun _ _ _ h => h) (Or.inl ⟨by rfl, fun w' hS' => ?_⟩) (by assumption) ?_
            rotate_left
            · (try dsimp only at hS'); go_simp; (try rw [if_pos (by omega)]); try with_reducible rfl
            try simp only [Act.put, List.getElem_toArray, List.getElem_cons_zero, List.getElem_cons_succ, List.setIfInBounds_toArray, List.set_cons_zero, List.set_cons_succ]
            refine wpAnyH_ready (rs := [12]) (by kernel_rfl) (by simp) ?_
            refine AllReadyH.cons rfl (fun K' hK => ?_) AllReadyH.nil
            refine if_yes (by rfl) ?_
            try simp only [Act.put, List.setIfInBounds_toArray, List.set_cons_zero, List.set_cons_succ]
            go_simp
            refine (spec_WithBoundS p _ _ _ _ _ (V.out.base (Nat.zero_le _)) (by omega)).mono ?_
            rintro e x16w ⟨P, sv, ok, rfl, hPr, hPok, hbx⟩
            have P0 := P0.ext hbx
            have B0 := B0.ext hbx
            have Q0 := Q0.ext hbx
            have V := Lib.hid (V.out.ext hbx)
            have R := Lib.hid (R.out.ext hbx)
            have G := Lib.hid (grown_ext' G.out hbx)
            have qx16w := hbx.size
            have Pr := Lib.hid (hPr.base (show ws2.heap.size ≤ x15w.heap.size from by have := G.out.size; omega))
            obtain ⟨aw, cw, rfl, -⟩ := hPr.open
            have Prn : ∀ q, (Value.slice aw P.bs.length cw).ownBlock = some q → x15w.heap.size ≤ q ∧ q < x16w.heap.size := fun q hq => hPr.lt q hq
            have Hok := Lib.hid hPok
            clear hPr hbx hPok
            go_wp2_with fail
            refine hK.out _ _ ?_ (fun hHeld => ?_)
            · exact ⟨P0.cell0 rfl, P0.cell0 rfl, B0.cell0 rfl, B0.cell0 rfl, B0.cell0 rfl⟩
            clear hK K'
            try simp only [Act.put, List.setIfInBounds_toArray, List.set_cons_zero, List.set_cons_succ]
            refine wpAnyH_take (i := 13) (v := ?_) rfl (by kernel_rfl) (by kernel_rfl) (by kernel_rfl) (fun _ _ _ h => h) (Or.inl ⟨by rfl, fun w' hS' => ?_⟩) (by assumption) ?_
            rotate_left
            · (try dsimp only at hS'); go_simp; (try rw [if_pos (by omega)]); try with_reducible rfl
            try simp only [Act.put, List.getElem_toArray, List.getElem_cons_zero, List.getElem_cons_succ, List.setIfInBounds_toArray, List.set_cons_zero, List.set_cons_succ]
            refine wpAnyH_take (i := 14) (v := ?_) rfl (by kernel_rfl) (by kernel_rfl) (by kernel_rfl) (fun _ _ _ h => h) (Or.inl ⟨by rfl, fun w' hS' => ?_⟩) (by assumption) ?_
            rotate_left
            · (try dsimp only at hS'); go_simp; (try rw [if_pos (by omega)]); try with_reducible rfl
            try simp only [Act.put, List.getElem_toArray, List.getElem_cons_zero, List.getElem_cons_succ, List.setIfInBounds_toArray, List.set_cons_zero, List.set_cons_succ]
            refine wpAnyH_take (i := 15) (v := ?_) rfl (by kernel_rfl) (by kernel_rfl) (by kernel_rfl) (fun _ _ _ h => h) (Or.inl ⟨by rfl, fun w' hS' => ?_⟩) (by assumption) ?_
            rotate_left
            · (try dsimp only at hS'); go_simp; (try rw [if_pos (by omega)]); try with_reducible rfl
            try simp only [Act.put, List.getElem_toArray, List.getElem_cons_zero, List.getElem_cons_succ, List.setIfInBounds_toArray, List.set_cons_zero, List.set_cons_succ]
            obtain ⟨rc9, rz9⟩ := (Q0).rules; have rl9 := (Q0).lt
            refine wpAnyH_ready (rs := [17]) (by kernel_rfl) (by simp) ?_
            refine AllReadyH.cons rfl (fun K' hK => ?_) AllReadyH.nil
            refine if_yes (by rfl) ?_
            try simp only [Act.put, List.setIfInBounds_toArray, List.set_cons_zero, List.set_cons_succ]
            go_simp
            have P0 := P0.far (p := ⟨go, 0, none⟩) (by dsimp only; omega) (.int .i64 P.pts)
            have B0 := B0.far (p := ⟨go, 0, none⟩) (by dsimp only; omega) (.int .i64 P.pts)
            have Q0 := Q0.set 0 (.int .i64 P.pts)
            have V := Lib.hid (V.out.far (grown_set (i := 0) (World.grownBy.refl _ (some go)) (.int .i64 P.pts)) (fun q hq e => by injection e with e; have := Vn q hq; have := Hgo.out; omega))
            have Pr := Lib.hid (Pr.out.far (grown_set (i := 0) (World.grownBy.refl _ (some go)) (.int .i64 P.pts)) (fun q hq e => by injection e with e; have := Prn q hq; have := Hgo.out; omega))
            have R := Lib.hid (R.out.set (p := ⟨go, 0, none⟩) (by dsimp only; omega) (by dsimp only; omega) (.int .i64 P.pts))
            have G := Lib.hid (grown_set' (k := go) (i := 0) G.out lgo (.int .i64 P.pts))
            have P0 := P0.far (p := ⟨go, 1, none⟩) (by dsimp only; omega) (.slice aw P.bs.length cw)
            have B0 := B0.far (p := ⟨go, 1, none⟩) (by dsimp only; omega) (.slice aw P.bs.length cw)
            have Q0 := Q0.set 1 (.slice aw P.bs.length cw)
            have V := Lib.hid (V.out.far (grown_set (i := 1) (World.grownBy.refl _ (some go)) (.slice aw P.bs.length cw)) (fun q hq e => by injection e with e; have := Vn q hq; have := Hgo.out; omega))
            have Pr := Lib.hid (Pr.out.far (grown_set (i := 1) (World.grownBy.refl _ (some go)) (.slice aw P.bs.length cw)) (fun q hq e => by injection e with e; have := Prn q hq; have := Hgo.out; omega))
            have R := Lib.hid (R.out.set (p := ⟨go, 1, none⟩) (by dsimp only; omega) (by dsimp only; omega) (.slice aw P.bs.length cw))
            have G := Lib.hid (grown_set' (k := go) (i := 1) G.out lgo (.slice aw P.bs.length cw))
            obtain ⟨x17w, hx17w⟩ : ∃ x, Hid (x = ((x16w.setCell ⟨go, 0, none⟩ (.int .i64 P.pts)).setCell ⟨go, 1, none⟩ (.slice aw P.bs.length cw))) := ⟨_, rfl⟩
            rw [← hx17w.out] at P0 B0 Q0 V Pr R G ⊢
            clear rc9 rz9 rl9
            refine hK.out _ _ ?_ (fun hHeld => ?_)
            · exact ⟨P0.cell0 rfl, P0.cell0 rfl, B0.cell0 rfl, B0.cell0 rfl, B0.cell0 rfl⟩
            clear hK K'
            try simp only [Act.put, List.setIfInBounds_toArray, List.set_cons_zero, List.set_cons_succ]
            refine wpAnyH_take (i := 18) (v := ?_) rfl (by kernel_rfl) (by kernel_rfl) (by kernel_rfl) (fun _ _ _ h => h) (Or.inl ⟨by rfl, fun w' hS' => ?_⟩) (by assumption) ?_
            rotate_left
            · (try dsimp only at hS'); go_simp; (try rw [if_pos (by omega)]); try with_reducible rfl
            try simp only [Act.put, List.getElem_toArray, List.getElem_cons_zero, List.getElem_cons_succ, List.setIfInBounds_toArray, List.set_cons_zero, List.set_cons_succ]
            refine wpAnyH_done (by kernel_rfl) ?_ _
            try simp only [Act.put, List.setIfInBounds_toArray, List.set_cons_zero, List.set_cons_succ]
            go_wp2_with fail
            go_meet
            exact ⟨go, P, _, ok, rfl, rfl, Q0, lgo, Pr.out, Hok.out, R.out.mono (by omega), G.out⟩
        rename World => wu
        obtain ⟨go, P, sv, ok, rfl, rfl, Q0, hgo, hPr, hPok, hr, hgw⟩ := hcut
        have R := Lib.hid hr
        have G := Lib.hid (grown_trans' Gw.out hgw)
        have R0 := R0.near hgw (by omega)
        have P0 := P0.near hgw (by omega)
        have V := Lib.hid (V.out.near hgw (by omega))
        have qu := hgw.size
        have Pr := Lib.hid hPr
        obtain ⟨aw, cw, rfl, -⟩ := hPr.open
        clear hr hgw Gw hPr
        cases hokk : ok
        · clear hokk
          obtain ⟨rc0, rz0⟩ := (R0).rules; have rl0 := (R0).lt
          obtain ⟨rc1, rz1⟩ := (P0).rules; have rl1 := (P0).lt
          go_wp2_with fail
          refine bodyPost_ret (v := .agg #[.int .i64 p.pts, .slice (some ⟨gv, 0, none⟩) p.bs.length cv]) (by simp [results, Try.results83, go_sem, *]) rfl ?_
          exact ⟨_, p, rfl, ((V.out.low (by dsimp only; omega) _).low (by dsimp only; omega) _).base (by omega), by omega, h0, h7, ((R.out.set (by dsimp only; omega) (by dsimp only; omega) _).set (by dsimp only; omega) (by dsimp only; omega) _).mono (by omega), grown_set' (grown_set' G.out (Nat.le_refl _) _) (Nat.le_refl _) _⟩
        · have hP2 := hPok hokk
          clear hokk hPok
          obtain ⟨rc0, rz0⟩ := (R0).rules; have rl0 := (R0).lt
          obtain ⟨rc1, rz1⟩ := (Q0).rules; have rl1 := (Q0).lt
          go_wp2_with fail
          refine bodyPost_ret (v := .agg #[.int .i64 P.pts, .slice aw P.bs.length cw]) (by simp [results, Try.results83, go_sem, *]) rfl ?_
          exact ⟨_, P, rfl, ((Pr.out.low (by dsimp only; omega) _).low (by dsimp only; omega) _).base (by omega), hP2.1, hP2.2.1, hP2.2.2, ((R.out.set (by dsimp only; omega) (by dsimp only; omega) _).set (by dsimp only; omega) (by dsimp only; omega) _).mono (by omega), grown_set' (grown_set' G.out (Nat.le_refl _) _) (Nat.le_refl _) _⟩
      · have hb0i : ¬ ((0 : Int) < (p.bs.length : Int)) := by omega
        obtain ⟨rc0, rz0⟩ := (R0).rules; have rl0 := (R0).lt
        obtain ⟨rc1, rz1⟩ := (P0).rules; have rl1 := (P0).lt
        go_wp2_with fail
        refine bodyPost_ret (v := .agg #[.int .i64 p.pts, .slice av p.bs.length cv]) (by simp [results, Try.results83, go_sem, *]) rfl ?_
        exact ⟨_, p, rfl, ((V.out.low (by dsimp only; omega) _).low (by dsimp only; omega) _).base (by omega), by omega, h0, h7, ((R.out.set (by dsimp only; omega) (by dsimp only; omega) _).set (by dsimp only; omega) (by dsimp only; omega) _).mono (by omega), grown_set' (grown_set' G.out (Nat.le_refl _) _) (Nat.le_refl _) _⟩
  · skip
    obtain ⟨rc0, rz0⟩ := (R0).rules; have rl0 := (R0).lt
    obtain ⟨rc1, rz1⟩ := (P0).rules; have rl1 := (P0).lt
    go_wp2_with fail
    refine bodyPost_ret (v := .agg #[.int .i64 p.pts, .slice av p.bs.length cv]) (by simp [results, Try.results83, go_sem, *]) rfl ?_
    exact ⟨_, p, rfl, ((V.out.low (by dsimp only; omega) _).low (by dsimp only; omega) _).base (by omega), by omega, h0, h7, ((R.out.set (by dsimp only; omega) (by dsimp only; omega) _).set (by dsimp only; omega) (by dsimp only; omega) _).mono (by omega), grown_set' (grown_set' G.out (Nat.le_refl _) _) (Nat.le_refl _) _⟩
end Go.Proofs.Ytlcmhcfnmohgmaa
