/- The walk of PlanOfTable of spec. Condition: the bounds can be read. -/
import Derived.Test.YtpccfkbpnfbdaaaPlanTab
import Derived.Test.YtpccfkbpnfbdaaaFitsS
import Derived.Deep.Cut
namespace Go.Proofs.Ytpccfkbpnfbdaaa
open Go.RowKit
set_option linter.unusedVariables false
set_option linter.unusedSimpArgs false
set_option maxRecDepth 100000 in
set_option maxHeartbeats 8000000 in
theorem spec_PlanOfTable (p : Pl) (vp : Value) (w : World) (hp : Bds w 0 vp p.bs) :
    Calls Try.prog 29 #[.agg #[.int .i64 p.pts, vp]] w (RetPlanB w p.tbl p.tblOk) := by
  have HP := Lib.hid hp
  obtain ⟨a, c, rfl, hn, hc, -⟩ := hp.open
  clear hp
  go_enter Try.func29, Try.ntmps29
  go_wp2_with fail
  obtain ⟨W, hW, A0, R, hs, E⟩ := two_boxes w #[.int .i64 p.pts, .slice a p.bs.length c] #[.int .i64 0, .slice none 0 0] 29 29
  rw [← hW.out]
  have q0 : w.heap.size + 2 ≤ W.heap.size := hs
  refine (spec_FitsOk p _ _ (HP.out.ext E)).mono ?_
  rintro e w1 ⟨rfl, hb1⟩
  have A0 := A0.ext hb1
  have R := R.ext hb1
  have E := ext_trans E hb1
  have q1 := hb1.size
  clear hb1
  cases hf : p.fits
  · have Hf : Hid (p.tblOk = false) := by simp [Pl.tblOk, hf]; exact Lib.hid trivial
    have Hz : Hid (p.tbl = Pl.zero) := Lib.hid (if_neg (by rw [Hf.out]; simp))
    clear hf
    obtain ⟨rc2, rz2⟩ := (R).rules; have rl2 := (R).lt
    go_wp2_with fail
    refine bodyPost_ret (v := .tuple #[.agg #[.int .i64 0, .slice none 0 0], .bool false]) (by simp [results, Try.results29, go_sem, *]) rfl ?_
    rw [Hf.out, Hz.out]
    exact ⟨_, rfl, Bds.nil _ _, ext_set (ext_set E (by dsimp only; omega) _) (by dsimp only; omega) _⟩
  have hfo := fits_ok hf
  obtain ⟨q1', q2, q3, q4, q5⟩ := plok_in hfo.1
  obtain ⟨n, hnn⟩ : ∃ n, Hid (n = p.n) := ⟨_, rfl⟩
  obtain ⟨D, hD⟩ : ∃ D, Hid (D = upT (tab0 p.bs) n) := ⟨_, rfl⟩
  have hDc : Hid (p.clo = D) := by rw [hD.out, hnn.out]; exact Lib.hid rfl
  have hfar : Hid (∀ i j, D i j ≤ 100000) := fun i j => by rw [hD.out]; exact Int.le_trans (upT_le _ _ _ _) (tab0_le p.bs i j)
  have Q5 : Hid (BdsIn n (-2000) 2000 p.bs) := by rw [hnn.out]; exact Lib.hid (q5.wide (by decide) (by decide))
  have Hf : Hid (p.tblOk = (decide (p.pts ≤ 4) && (Pl.ofTab n D).ok)) := by unfold Pl.tblOk; rw [hf, Bool.true_and, hDc.out, hnn.out]; exact Lib.hid rfl
  have Hp : Hid (p.pts = (n : Int)) := by rw [hnn.out]; exact Lib.hid q1'
  have hn1 : 1 ≤ n ∧ n ≤ 6 := by rw [hnn.out]; exact ⟨q2, q3⟩
  clear hf hfo q1' q2 q3 q5
  rw [Hp.out] at A0
  by_cases h4 : 4 < n
  · have Hz0 : Hid (p.tblOk = false) := by rw [Hf.out, Hp.out, decide_eq_false (by omega)]; exact Lib.hid rfl
    have Hz : Hid (p.tbl = Pl.zero) := Lib.hid (if_neg (by rw [Hz0.out]; simp))
    obtain ⟨rc0, rz0⟩ := (A0).rules; have rl0 := (A0).lt
    obtain ⟨rc2, rz2⟩ := (R).rules; have rl2 := (R).lt
    go_wp2_with fail
    refine bodyPost_ret (v := .tuple #[.agg #[.int .i64 0, .slice none 0 0], .bool false]) (by simp [results, Try.results29, go_sem, *]) rfl ?_
    rw [Hz0.out, Hz.out]
    exact ⟨_, rfl, Bds.nil _ _, ext_set (ext_set E (by dsimp only; omega) _) (by dsimp only; omega) _⟩
  have Hk : Hid (p.tblOk = (Pl.ofTab n D).ok) := by rw [Hf.out, Hp.out, decide_eq_true (by omega), Bool.true_and]; exact Lib.hid rfl
  have Hk2 : Hid (p.tbl = (Pl.ofTab n D).told) := by unfold Pl.tbl Pl.told; rw [Hk.out, hDc.out, hnn.out]; exact Lib.hid rfl
  clear Hf
  obtain ⟨rc0, rz0⟩ := (A0).rules; have rl0 := (A0).lt
  go_wp2_with fail
  refine (spec_l2Closed n _ p.bs _ (HP.out.ext E) hn1.2 Q5.out (by omega)).mono ?_
  rintro e w4 ⟨vt, ht, rfl, hG, hb4⟩
  obtain ⟨at_, ct, rfl, hct, hct2⟩ := hG.open
  have A0 := A0.ext hb4
  have R := R.ext hb4
  have E := ext_trans E hb4
  have q4' := hb4.size
  have G := Lib.hid hG
  rw [← hD.out] at G
  clear rc0 rz0 rl0 hb4 hG
  obtain ⟨rc0, rz0⟩ := (A0).rules; have rl0 := (A0).lt
  go_upto_region 5 with fail
  obtain ⟨w5, hw5, O, hs5, hb⟩ := one_box w4 #[.int .i64 n, .slice none 0 0] 29
  rw [← hw5.out]
  clear rc0 rz0 rl0
  go_wp2_with fail
  go_loopg [6] n (fun m ii wr => ∃ (i : Nat) (tl : List Bd) (vo : Value), i ≤ n ∧ m = n - i ∧ ii = .int .i64 i ∧ Hid (tl = tbAll D n i) ∧ Box wr w4.heap.size 29 #[.int .i64 n, vo] ∧ Hid (Bds wr (w4.heap.size + 1) vo tl) ∧ Below w4.heap.size w4 wr)
  case atStart => exact ⟨0, [], .slice none 0 0, by omega, by omega, rfl, Lib.hid rfl, O, Lib.hid (Bds.nil _ _), hb⟩
  case round =>
    clear O hb
    obtain ⟨i, tl, vo, hi, hgk, rfl, htl, O, T, hb⟩ := hrel
    have Hi := Lib.hid hgk
    clear hgk
    have A1 := A0.ext hb
    obtain ⟨rc0, rz0⟩ := (A1).rules; have rl0 := (A1).lt
    by_cases hlt : i < n
    · go_wp2_with fail
      go_loopg [7] n (fun m jj wx => ∃ (j : Nat) (tl2 : List Bd) (vo2 : Value), j ≤ n ∧ m = n - j ∧ jj = .int .i64 j ∧ Hid (tl2 = tbAll D n i ++ tbRow D i j) ∧ Box wx w4.heap.size 29 #[.int .i64 n, vo2] ∧ Hid (Bds wx (w4.heap.size + 1) vo2 tl2) ∧ Below w4.heap.size w4 wx)
      case atStart => exact ⟨0, tl, vo, by omega, by omega, rfl, Lib.hid (by rw [htl.out]; simp [tbRow]), O, T, hb⟩
      case round =>
        clear O T hb htl rc0 rz0 rl0 A1
        obtain ⟨j, tl2, vo2, hj, hgk, rfl, htl2, O, T, hb⟩ := hrel
        have Hj := Lib.hid hgk
        clear hgk
        have A1 := A0.ext hb
        obtain ⟨rc0, rz0⟩ := (A1).rules; have rl0 := (A1).lt
        by_cases hlj : j < n
        · skip
          obtain ⟨gd, ad, cd, hag, _, hgd, _, hOd, hcd, hcd2, hrd⟩ := G.out.head hlt
          subst hag
          have hl1 : (rowOf n (D i)).length = n := rowOf_length _ _
          obtain ⟨g1, ha1, _, hg1, _, k1⟩ := hrd.at_ (j := j) (by omega)
          subst ha1
          rw [rowOf_getD _ _ _ hlj] at k1
          obtain ⟨x, hx⟩ : ∃ x, Hid (x = D i j) := ⟨_, rfl⟩
          rw [← hx.out] at k1
          have hxf : x ≤ 100000 := by rw [hx.out]; exact hfar.out i j
          have hOd4 := Lib.hid hOd
          have k14 := Lib.hid k1
          have hOd := (hb.cell (by exact hgd)).trans hOd
          have k1 := (hb.cell (by exact hg1)).trans k1
          clear hl1 hrd
          have hlen : tl2.length ≤ 42 := by
            rw [htl2.out, List.length_append]
            have := tbAll_length D hn1.2 i
            have := tbRow_length D i j
            omega
          by_cases hij : i = j
          · have hsame : Hid (tbRow D i (j+1) = tbRow D i j) := Lib.hid (tbRow_same (.inl hij))
            have hne : ((i : Int) != (j : Int)) = false := by simp [hij]
            clear hij
            go_wp2_with fail
            go_roundg (n - (j+1))
            case rel => exact ⟨j+1, tl2, vo2, by omega, rfl, by go_num, Lib.hid (by rw [hsame.out]; exact htl2.out), O, T, hb⟩
            case measure => have := Hj.out; omega
          · have hne : ((i : Int) != (j : Int)) = true := by simp; omega
            have Hij := Lib.hid hij
            clear hij
            by_cases hx1 : x < 100000
            · have hmore : Hid (tbRow D i (j+1) = tbRow D i j ++ [⟨i, j, x⟩]) := by
                rw [tbRow_more Hij.out (by rw [← hx.out]; omega), ← hx.out]; exact Lib.hid rfl
              have hxd : decide (x < 100000) = true := decide_eq_true hx1
              clear hx1
              obtain ⟨ao, co, rfl, -⟩ := T.out.open
              obtain ⟨rc1, rz1⟩ := (O).rules; have rl1 := (O).lt
              go_upto_region 12 with fail
              refine wp_region_tail 15 (by kernel_rfl) (by kernel_rfl) (fun w' => w'.cell? ⟨w4.heap.size, 1, none⟩ = some (.slice ao tl2.length co) ∧ w'.cell? ⟨gd, i, none⟩ = some (Value.slice (some ⟨g1, 0, none⟩) n cd) ∧ w'.cell? ⟨g1, j, none⟩ = some (Value.int .i64 x)) ?_ ?_
              · exact ⟨O.cell0 rfl, hOd, k1⟩
              intro hHeld
              obtain ⟨d, hd⟩ : ∃ d, Hid (d = wr.drew) := ⟨_, rfl⟩
              have qd : wr.heap.size ≤ d.heap.size := by rw [hd.out]; exact Nat.le_refl _
              have O := O.drew
              have T := Lib.hid T.out.drew
              have hb := ext_drew hb
              rw [← hd.out] at O T hb hHeld ⊢
              clear rc0 rz0 rl0 rc1 rz1 rl1 hOd k1 A1
              simp only [List.pop_toArray, List.dropLast]
              refine wpAnyH_take (i := 0) (v := ?_) rfl (by kernel_rfl) (by kernel_rfl) (by kernel_rfl) (fun _ _ _ h => h) (Or.inl ⟨by rfl, fun w' hS' => ?_⟩) (by assumption) ?_
              rotate_left
              · (try dsimp only at hS'); go_simp; (try rw [if_pos (by omega)]); try with_reducible rfl
              try simp only [Act.put, List.getElem_toArray, List.getElem_cons_zero, List.getElem_cons_succ, List.setIfInBounds_toArray, List.set_cons_zero, List.set_cons_succ]
              refine wpAnyH_take (i := 1) (v := ?_) rfl (by kernel_rfl) (by kernel_rfl) (by kernel_rfl) (fun _ _ _ h => h) (Or.inl ⟨by rfl, fun w' hS' => ?_⟩) (by assumption) ?_
              rotate_left
              · (try dsimp only at hS'); go_simp; (try rw [if_pos (by omega)]); try with_reducible rfl
              try simp only [Act.put, List.getElem_toArray, List.getElem_cons_zero, List.getElem_cons_succ, List.setIfInBounds_toArray, List.set_cons_zero, List.set_cons_succ]
              refine wpAnyH_take (i := 2) (v := ?_) rfl (by kernel_rfl) (by kernel_rfl) (by kernel_rfl) (fun _ _ _ h => h) (Or.inl ⟨by rfl, fun w' hS' => ?_⟩) (by assumption) ?_
              rotate_left
              · (try dsimp only at hS'); go_simp; (try rw [if_pos (by omega)]); try with_reducible rfl
              try simp only [Act.put, List.getElem_toArray, List.getElem_cons_zero, List.getElem_cons_succ, List.setIfInBounds_toArray, List.set_cons_zero, List.set_cons_succ]
              refine wpAnyH_take (i := 3) (v := ?_) rfl (by kernel_rfl) (by kernel_rfl) (by kernel_rfl) (fun _ _ _ h => h) (Or.inl ⟨by rfl, fun w' hS' => ?_⟩) (by assumption) ?_
              rotate_left
              · (try dsimp only at hS'); go_simp; (try rw [if_pos (by omega)]); try with_reducible rfl
              try simp only [Act.put, List.getElem_toArray, List.getElem_cons_zero, List.getElem_cons_succ, List.setIfInBounds_toArray, List.set_cons_zero, List.set_cons_succ]
              refine wpAnyH_take (i := 4) (v := ?_) rfl (by kernel_rfl) (by kernel_rfl) (by kernel_rfl) (fun _ _ _ h => h) (Or.inl ⟨by rfl, fun w' hS' => ?_⟩) (by assumption) ?_
              rotate_left
              · (try dsimp only at hS'); go_simp; (try rw [if_pos (by omega)]); try with_reducible rfl
              try simp only [Act.put, List.getElem_toArray, List.getElem_cons_zero, List.getElem_cons_succ, List.setIfInBounds_toArray, List.set_cons_zero, List.set_cons_succ]
              refine wpAnyH_take (i := 5) (v := ?_) rfl (by kernel_rfl) (by kernel_rfl) (by kernel_rfl) (fun _ _ _ h => h) (Or.inl ⟨by rfl, fun w' hS' => ?_⟩) (by assumption) ?_
              rotate_left
              · (try dsimp only at hS'); go_simp; (try rw [if_pos (by omega)]); try with_reducible rfl
              try simp only [Act.put, List.getElem_toArray, List.getElem_cons_zero, List.getElem_cons_succ, List.setIfInBounds_toArray, List.set_cons_zero, List.set_cons_succ]
              refine wpAnyH_take (i := 6) (v := ?_) rfl (by kernel_rfl) (by kernel_rfl) (by kernel_rfl) (fun _ _ _ h => h) (Or.inl ⟨by rfl, fun w' hS' => ?_⟩) (by assumption) ?_
              rotate_left
              · (try dsimp only at hS'); go_simp; (try rw [if_pos (by omega)]); try with_reducible rfl
              try simp only [Act.put, List.getElem_toArray, List.getElem_cons_zero, List.getElem_cons_succ, List.setIfInBounds_toArray, List.set_cons_zero, List.set_cons_succ]
              refine wpAnyH_take (i := 7) (v := ?_) rfl (by kernel_rfl) (by kernel_rfl) (by kernel_rfl) (fun _ _ _ h => h) (Or.inl ⟨by rfl, fun w' hS' => ?_⟩) (by assumption) ?_
              rotate_left
              · (try dsimp only at hS'); go_simp; (try rw [if_pos (by omega)]); try with_reducible rfl
              try simp only [Act.put, List.getElem_toArray, List.getElem_cons_zero, List.getElem_cons_succ, List.setIfInBounds_toArray, List.set_cons_zero, List.set_cons_succ]
              refine wpAnyH_take (i := 8) (v := ?_) rfl (by kernel_rfl) (by kernel_rfl) (by kernel_rfl) (fun _ _ _ h => h) (Or.inl ⟨by rfl, fun w' hS' => ?_⟩) (by assumption) ?_
              rotate_left
              · (try dsimp only at hS'); go_simp; (try rw [if_pos (by omega)]); try with_reducible rfl
              try simp only [Act.put, List.getElem_toArray, List.getElem_cons_zero, List.getElem_cons_succ, List.setIfInBounds_toArray, List.set_cons_zero, List.set_cons_succ]
              refine wpAnyH_take (i := 9) (v := ?_) rfl (by kernel_rfl) (by kernel_rfl) (by kernel_rfl) (fun _ _ _ h => h) (Or.inl ⟨by rfl, fun w' hS' => ?_⟩) (by assumption) ?_
              rotate_left
              · (try dsimp only at hS'); go_simp; (try rw [if_pos (by omega)]); try with_reducible rfl
              try simp only [Act.put, List.getElem_toArray, List.getElem_cons_zero, List.getElem_cons_succ, List.setIfInBounds_toArray, List.set_cons_zero, List.set_cons_succ]
              refine wpAnyH_take (i := 10) (v := ?_) rfl (by kernel_rfl) (by kernel_rfl) (by kernel_rfl) (fun _ _ _ h => h) (Or.inl ⟨by rfl, fun w' hS' => ?_⟩) (by assumption) ?_
              rotate_left
              · (try dsimp only at hS'); go_simp; (try rw [if_pos (by omega)]); try with_reducible rfl
              try simp only [Act.put, List.getElem_toArray, List.getElem_cons_zero, List.getElem_cons_succ, List.setIfInBounds_toArray, List.set_cons_zero, List.set_cons_succ]
              refine wpAnyH_take (i := 11) (v := ?_) rfl (by kernel_rfl) (by kernel_rfl) (by kernel_rfl) (fun _ _ _ h => h) (Or.inl ⟨by rfl, fun w' hS' => ?_⟩) (by assumption) ?_
              rotate_left
              · (try dsimp only at hS'); go_simp; (try rw [if_pos (by omega)]); try with_reducible rfl
              try simp only [Act.put, List.getElem_toArray, List.getElem_cons_zero, List.getElem_cons_succ, List.setIfInBounds_toArray, List.set_cons_zero, List.set_cons_succ]
              refine wpAnyH_ready (rs := [12]) (by kernel_rfl) (by simp) ?_
              refine AllReadyH.cons rfl (fun K' hK => ?_) AllReadyH.nil
              refine if_yes (by rfl) ?_
              try simp only [Act.put, List.getElem_toArray, List.getElem_cons_zero, List.getElem_cons_succ, List.setIfInBounds_toArray, List.set_cons_zero, List.set_cons_succ]
              go_simp
              obtain ⟨u3, hu3, LL, hs3, hE3⟩ := one_box d #[.int .i64 i, .int .i64 j, .int .i64 x] 40
              rw [← hu3.out]
              have hlit : Hid (Bds u3 0 (.slice (some ⟨d.heap.size, 0, none⟩) 1 1) [(⟨(i : Int), (j : Int), x⟩ : Bd)]) := by rw [hu3.out]; exact Lib.hid ((Bds.lit d ⟨i, j, x⟩).base (Nat.zero_le _))
              have hheld : Hid (∀ wx, Below w4.heap.size w4 wx → wx.cell? ⟨gd, i, none⟩ = some (Value.slice (some ⟨g1, 0, none⟩) n cd) ∧ wx.cell? ⟨g1, j, none⟩ = some (Value.int .i64 x)) := fun wx hx => ⟨(hx.cell (by exact hgd)).trans hOd4.out, (hx.cell (by exact hg1)).trans k14.out⟩
              have O := O.ext hE3
              have T := Lib.hid (T.out.ext hE3)
              have hb := hb.trans (hE3.mono (by have := hb.size; omega))
              have q3 := hE3.size
              clear hE3
              refine hK.out _ _ ?_ (fun hHeld => ?_)
              · exact ⟨O.cell0 rfl, (hheld.out _ hb).1, (hheld.out _ hb).2⟩
              clear hK K'
              try simp only [Act.put, List.getElem_toArray, List.getElem_cons_zero, List.getElem_cons_succ, List.setIfInBounds_toArray, List.set_cons_zero, List.set_cons_succ]
              refine wpAnyH_ready (rs := [13]) (by kernel_rfl) (by simp) ?_
              refine AllReadyH.cons rfl (fun K' hK => ?_) AllReadyH.nil
              refine if_yes (by rfl) ?_
              try simp only [Act.put, List.getElem_toArray, List.getElem_cons_zero, List.getElem_cons_succ, List.setIfInBounds_toArray, List.set_cons_zero, List.set_cons_succ]
              refine wp_appB _ (.tmp 48) (.tmp 59) rfl (w4.heap.size + 1) 0 (.slice ao tl2.length co) tl2 rfl T.out (.slice (some ⟨d.heap.size, 0, none⟩) 1 1) [(⟨(i : Int), (j : Int), x⟩ : Bd)] rfl hlit.out (by simp; omega) (by have := O.lt; omega) ?_
              intro v9 w10 hv9 hg9
              have O := O.grown hg9 (fun e => by have := (T.out.lt _ e.symm).1; omega)
              have hb := hb.grown hg9 hb.size (fun q hq => by have := (T.out.lt q hq).1; omega)
              have T := Lib.hid hv9
              obtain ⟨a9, c9, h9e, -⟩ := hv9.open
              rw [List.length_append, List.length_singleton] at h9e
              subst h9e
              clear hg9 hv9
              refine hK.out _ _ ?_ (fun hHeld => ?_)
              · exact ⟨O.cell0 rfl, (hheld.out _ hb).1, (hheld.out _ hb).2⟩
              clear hK K'
              try simp only [Act.put, List.getElem_toArray, List.getElem_cons_zero, List.getElem_cons_succ, List.setIfInBounds_toArray, List.set_cons_zero, List.set_cons_succ]
              obtain ⟨rc1, rz1⟩ := (O).rules; have rl1 := (O).lt
              refine wpAnyH_take (i := 14) (v := ?_) rfl (by kernel_rfl) (by kernel_rfl) (by kernel_rfl) (fun _ _ _ h => h) (Or.inl ⟨by rfl, fun w' hS' => ?_⟩) (by assumption) ?_
              rotate_left
              · (try dsimp only at hS'); go_simp; (try rw [if_pos (by omega)]); try with_reducible rfl
              try simp only [Act.put, List.getElem_toArray, List.getElem_cons_zero, List.getElem_cons_succ, List.setIfInBounds_toArray, List.set_cons_zero, List.set_cons_succ]
              refine wpAnyH_done (by kernel_rfl) ?_ _
              refine tail_step rfl (fun K' hK => ?_)
              refine if_yes (by rfl) ?_
              try simp only [Act.put, List.getElem_toArray, List.getElem_cons_zero, List.getElem_cons_succ, List.setIfInBounds_toArray, List.set_cons_zero, List.set_cons_succ]
              go_simp
              refine hK _ _ ?_
              clear hK K'
              try simp only [Act.put, List.getElem_toArray, List.getElem_cons_zero, List.getElem_cons_succ, List.setIfInBounds_toArray, List.set_cons_zero, List.set_cons_succ]
              go_wp2_with fail
              go_roundg (n - (j+1))
              case rel =>
                have hvs := Lib.hid (T.out.low (p := ⟨w4.heap.size, 1, none⟩) (by dsimp only; omega) (.slice a9 (tl2.length + 1) c9))
                refine ⟨j+1, tl2 ++ [(⟨(i : Int), (j : Int), x⟩ : Bd)], .slice a9 (tl2.length + 1) c9, by omega, rfl, by go_num, Lib.hid ?_, O.set 1 (.slice a9 (tl2.length + 1) c9), hvs, ext_set hb (by dsimp only; omega) _⟩
                rw [hmore.out, ← List.append_assoc, ← htl2.out]
              case measure => have := Hj.out; omega
            · have hsame : Hid (tbRow D i (j+1) = tbRow D i j) := Lib.hid (tbRow_same (.inr (by rw [← hx.out]; omega)))
              have hxd : decide (x < 100000) = false := decide_eq_false hx1
              clear hx1
              go_wp2_with fail
              go_roundg (n - (j+1))
              case rel => exact ⟨j+1, tl2, vo2, by omega, rfl, by go_num, Lib.hid (by rw [hsame.out]; exact htl2.out), O, T, hb⟩
              case measure => have := Hj.out; omega
        · have hjn : j = n := by omega
          have hrow : Hid (tl2 = tbAll D n (i+1)) := by rw [htl2.out, hjn]; exact Lib.hid rfl
          clear hjn htl2
          go_wp2_with fail
          go_roundg (n - (i+1))
          case rel => exact ⟨i+1, tl2, vo2, by omega, rfl, by go_num, hrow, O, T, hb⟩
          case measure => have := Hi.out; omega
    · have hin : i = n := by omega
      have hall : Hid (tl = (Pl.ofTab n D).bs) := by rw [htl.out, hin]; exact Lib.hid rfl
      clear hin htl
      obtain ⟨ao, co, rfl, -⟩ := T.out.open
      rw [hall.out] at T O
      obtain ⟨P, hP⟩ : ∃ P, Hid (P = Pl.ofTab n D) := ⟨_, rfl⟩
      have hPp : Hid (P.pts = (n : Int)) := by rw [hP.out]; exact Lib.hid rfl
      rw [← hP.out] at T O Hk Hk2
      rw [← hPp.out] at O
      clear hall
      obtain ⟨rc1, rz1⟩ := (O).rules; have rl1 := (O).lt
      go_wp2_with fail
      refine (spec_PlanOk P _ _ (T.out.base (Nat.zero_le _))).mono ?_
      rintro e w6 ⟨rfl, hb6⟩
      have O := O.ext hb6
      have T := Lib.hid (T.out.ext hb6)
      have hb := ext_trans hb hb6
      have R1 := R.ext hb
      have E1 := ext_trans E hb
      clear rc0 rz0 rl0 rc1 rz1 rl1 hb6
      obtain ⟨rc1, rz1⟩ := (O).rules; have rl1 := (O).lt
      obtain ⟨rc2, rz2⟩ := (R1).rules; have rl2 := (R1).lt
      cases hok : P.ok
      · have Hz : Hid (P.told = Pl.zero) := Lib.hid (if_neg (by rw [hok]; simp))
        have Hk3 : Hid (p.tblOk = false) := by rw [Hk.out, hok]; exact Lib.hid rfl
        clear hok
        go_wp2_with fail
        refine bodyPost_ret (v := .tuple #[.agg #[.int .i64 0, .slice none 0 0], .bool false]) (by simp [results, Try.results29, go_sem, *]) rfl ?_
        rw [Hk3.out, Hk2.out, Hz.out]
        exact ⟨_, rfl, Bds.nil _ _, ext_set (ext_set E1 (by dsimp only; omega) _) (by dsimp only; omega) _⟩
      · have Hz : Hid (P.told = P) := Lib.hid (if_pos hok)
        have Hk3 : Hid (p.tblOk = true) := by rw [Hk.out, hok]; exact Lib.hid rfl
        clear hok
        go_wp2_with fail
        refine bodyPost_ret (v := .tuple #[.agg #[.int .i64 P.pts, .slice ao P.bs.length co], .bool true]) (by simp [results, Try.results29, go_sem, *]) rfl ?_
        rw [Hk3.out, Hk2.out, Hz.out]
        refine ⟨_, rfl, ?_, ext_set (ext_set E1 (by dsimp only; omega) _) (by dsimp only; omega) _⟩
        have h1 := T.out.low (p := ⟨w.heap.size + 1, 0, none⟩) (by dsimp only; omega) (.int .i64 P.pts)
        have h2 := h1.low (p := ⟨w.heap.size + 1, 1, none⟩) (by dsimp only; omega) (.slice ao P.bs.length co)
        exact h2.base (by omega)
end Go.Proofs.Ytpccfkbpnfbdaaa
