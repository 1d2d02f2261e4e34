/- The walks of VerdictOf, broken, FirstBad and WaitUntil of impl. Conditions: the bounds and the happenings can be read, at most two million. -/
import Derived.Test.YtffcfambgcaikaaAfterI
namespace Go.Proofs.Ytffcfambgcaikaa
open Go.RowKit
set_option linter.unusedVariables false
set_option linter.unusedSimpArgs false
set_option maxRecDepth 100000 in
set_option maxHeartbeats 4000000 in
theorem impl_VerdictOf (p : Pl) (bs lv : Value) (l : List Hp) (now : Int) (w : World) (hv : Bds w 0 bs p.bs) (hh : Hps w 0 lv l) (hlen : l.length ≤ 2000000) :
    Calls Try.prog 14 #[.agg #[.int .i64 p.pts, bs], lv, .int .i64 now] w fun e w' => e = .returned (.int .i64 (p.verdict l now)) ∧ Below w.heap.size w w' := by
  have V := Lib.hid hv
  have H := Lib.hid hh
  obtain ⟨a, c, rfl, hn, hc, -⟩ := hv.open
  obtain ⟨al, cl, rfl, hnl, hcl, -⟩ := hh.open
  obtain ⟨N, hN⟩ : ∃ N, Hid (N = l.length) := ⟨_, rfl⟩
  rw [← hN.out] at hnl hlen ⊢
  clear hv hh
  go_enter Try.func14, Try.ntmps14
  go_wp2_with fail
  obtain ⟨W, hW, A0, hs, E⟩ := one_box w #[.int .i64 p.pts, .slice a p.bs.length c] 25
  rw [← hW.out]
  obtain ⟨rc0, rz0⟩ := (A0).rules; have rl0 := (A0).lt
  go_wp2_with fail
  refine (impl_StateAfter p _ _ l now _ (V.out.ext E) (show Hps _ 0 (.slice al N cl) l by rw [hN.out]; exact H.out.ext E) (by rw [← hN.out]; exact hlen)).mono ?_
  rintro e w1 ⟨x, v, d, rfl, hvd, hxd, hb1⟩
  obtain ⟨ok, hok⟩ : ∃ b, Hid (b = (p.heard l && inB now (lastT l) 2000)) := ⟨_, rfl⟩
  have Hxd := Lib.hid hxd
  rw [← hok.out] at Hxd ⊢
  obtain ⟨av, cv, rfl, -⟩ := hvd.open
  have A0 := A0.ext hb1
  have E := ext_trans E hb1
  have D := Lib.hid hvd
  clear hvd hxd hb1 rc0 rz0 rl0
  obtain ⟨dl, hdl⟩ : ∃ n, Hid (n = d.length) := ⟨_, rfl⟩
  rw [← hdl.out] at D ⊢
  go_upto_region 2 with fail
  obtain ⟨w2, hw2, S0, hs2, E2⟩ := one_box w1 #[.int .i64 x, .slice av dl cv] 43
  rw [← hw2.out]
  have A0 := A0.ext E2
  have D := Lib.hid (D.out.ext E2)
  have E := ext_trans E E2
  obtain ⟨rc0, rz0⟩ := (A0).rules; have rl0 := (A0).lt
  obtain ⟨rc1, rz1⟩ := (S0).rules; have rl1 := (S0).lt
  cases hc : ok
  · have Hf : Hid (p.verdict l now = -1) := Lib.hid (verd_no (by rw [← hok.out]; exact hc))
    clear hc
    go_wp2_with fail
    go_ret
    exact ⟨by rw [Hf.out]; rfl, E⟩
  obtain ⟨hx, hdd⟩ := Hxd.out hc
  have Hok : Hid ((p.heard l && inB now (lastT l) 2000) = true) := by rw [← hok.out]; exact Lib.hid hc
  have hlenn := Hok.out
  rw [Bool.and_eq_true] at hlenn
  obtain ⟨q1, q2, q3, -, -⟩ := plok_in (fits_ok (heard_iff.1 hlenn.1).1).1
  have hl6 := Lib.hid (heard_len hlenn.1)
  obtain ⟨n, hnn⟩ : ∃ n, Hid (n = p.n) := ⟨_, rfl⟩
  have hdn : dl = n := by rw [hdl.out, hdd, hnn.out]; exact doneTo_length _ q2 _ _
  have Hdl : Hid (d.length = n) := by rw [← hdl.out]; exact Lib.hid hdn
  subst hdn
  have Hdd := Lib.hid hdd
  rw [← hnn.out] at q2 q3
  have Hx := Lib.hid hx
  clear hc hx hlenn q1 hdd
  go_wp2_with fail
  refine (impl_GoesOnOk p _ _ x d _ (V.out.ext E) (D.out.base (Nat.zero_le _))).mono ?_
  rintro e w3 ⟨rfl, hb3⟩
  rw [show p.goes x d = p.goes now (doneL p.n l) by rw [Hx.out, Hdd.out]]
  clear rc0 rz0 rl0 rc1 rz1 rl1
  have S0 := S0.ext hb3
  have D := Lib.hid (D.out.ext hb3)
  have E := ext_trans E hb3
  obtain ⟨rc1, rz1⟩ := (S0).rules; have rl1 := (S0).lt
  cases hg : p.goes now (doneL p.n l)
  · have Hf : Hid (p.verdict l now = 2) := Lib.hid (verd_bad Hok.out hg)
    clear hg
    go_wp2_with fail
    go_ret
    exact ⟨by rw [Hf.out]; rfl, E⟩
  have Hg := Lib.hid hg
  clear hg
  go_wp2_with fail
  clear rc1 rz1 rl1
  go_loopg [28] dl (fun m kk wr => ∃ k : Nat, k ≤ dl ∧ m = dl - k ∧ kk = .int .i64 k ∧ Below w3.heap.size w3 wr ∧ Hid (∀ i, i < k → dA d i ≠ -1))
  case atStart => exact ⟨0, by omega, by omega, rfl, ext_refl _, Lib.hid fun i hi => by omega⟩
  case round =>
    obtain ⟨k, hk, hgk, rfl, hb, Hall⟩ := hrel
    have Hk := Lib.hid hgk
    clear hgk
    have S1 := S0.ext hb
    obtain ⟨rc1, rz1⟩ := (S1).rules; have rl1 := (S1).lt
    by_cases hlk : k < dl
    · go_wp2_with fail
      refine (impl_open x _ d k _ ((D.out.ext hb).base (Nat.zero_le _)) (by rw [Hdl.out]; exact hlk) (by rw [Hdl.out]; exact q3)).mono ?_
      rintro e w4 ⟨rfl, hb4⟩
      have hb := ext_trans hb hb4
      by_cases ho : dA d k = -1
      · rw [show decide (dA d k = -1) = true from decide_eq_true ho]
        have Hf : Hid (p.verdict l now = 1) := Lib.hid (verd_open Hok.out Hg.out (fun e => by
          have := hl6.out.2.1 e k (by rw [← hnn.out]; exact hlk)
          rw [← Hdd.out] at this
          exact this ho))
        clear ho
        go_wp2_with fail
        go_ret
        exact ⟨by rw [Hf.out]; rfl, ext_trans E hb⟩
      · rw [show decide (dA d k = -1) = false from decide_eq_false ho]
        have Ho := Lib.hid ho
        clear ho
        go_wp2_with fail
        go_roundg (dl - (k+1))
        case rel =>
          refine ⟨k+1, by omega, rfl, by go_num, hb, Lib.hid fun i hi => ?_⟩
          by_cases e : i = k
          · subst e; exact Ho.out
          · exact Hall.out i (by omega)
        case measure => have := Hk.out; omega
    · have hkn : k = dl := by omega
      have Hf : Hid (p.verdict l now = 0) := Lib.hid (verd_kept Hok.out Hg.out (hl6.out.2.2 fun j hj => by
        rw [← Hdd.out]; exact Hall.out j (by rw [hkn, hnn.out]; exact hj)))
      go_wp2_with fail
      go_ret
      exact ⟨by rw [Hf.out]; rfl, ext_trans E hb⟩
set_option maxRecDepth 100000 in
set_option maxHeartbeats 4000000 in
theorem impl_broken (p : Pl) (bs lv : Value) (l : List Hp) (w : World) (hv : Bds w 0 bs p.bs) (hh : Hps w 0 lv l) (hlen : l.length ≤ 2000000) :
    Calls Try.prog 55 #[.agg #[.int .i64 p.pts, bs], lv] w fun e w' => e = .returned (.bool (decide (p.verdict l (lastT l) = 2))) ∧ Below w.heap.size w w' := by
  have V := Lib.hid hv
  have H := Lib.hid hh
  obtain ⟨a, c, rfl, hn, hc, -⟩ := hv.open
  obtain ⟨al, cl, rfl, hnl, hcl, -⟩ := hh.open
  obtain ⟨N, hN⟩ : ∃ N, Hid (N = l.length) := ⟨_, rfl⟩
  rw [← hN.out] at hnl hlen ⊢
  clear hv hh
  go_enter Try.func55, Try.ntmps55
  go_wp2_with fail
  obtain ⟨W, hW, A0, hs, E⟩ := one_box w #[.int .i64 p.pts, .slice a p.bs.length c] 25
  rw [← hW.out]
  refine wp_region_held_drew (S := fun w' => w'.cell? ⟨w.heap.size, 0, none⟩ = some (.int .i64 p.pts) ∧ w'.cell? ⟨w.heap.size, 1, none⟩ = some (.slice a p.bs.length c)) (by kernel_rfl) ?_ (fun hHeld => ?_)
  · exact ⟨A0.cell0 rfl, A0.cell0 rfl⟩
  obtain ⟨dw, hdw⟩ : ∃ d', Hid (d' = W.drew) := ⟨_, rfl⟩
  have Ed : Below W.heap.size W dw := by rw [hdw.out]; exact ext_drew (ext_refl _)
  rw [← hdw.out] at hHeld ⊢
  have A0 := A0.ext Ed
  have E := ext_trans E Ed
  clear Ed
  have H1 : Hid (Hps dw 0 (.slice al N cl) l) := by rw [hN.out]; exact Lib.hid (H.out.ext E)
  obtain ⟨y, hy⟩ : ∃ x, Hid (x = lastT l) := ⟨_, rfl⟩
  try simp only [Act.put, List.setIfInBounds_toArray, List.set_cons_zero, List.set_cons_succ]
  refine wpAnyH_take (i := 0) (v := ?_) rfl (by kernel_rfl) (by kernel_rfl) (by kernel_rfl) (fun _ _ _ h => h) (Or.inl ⟨by rfl, fun w' hS' => ?_⟩) (by assumption) ?_
  rotate_left
  · (try dsimp only at hS'); go_simp; (try rw [if_pos (by omega)]); try with_reducible rfl
  try simp only [Act.put, List.getElem_toArray, List.getElem_cons_zero, List.getElem_cons_succ, List.setIfInBounds_toArray, List.set_cons_zero, List.set_cons_succ]
  refine wpAnyH_take (i := 1) (v := ?_) rfl (by kernel_rfl) (by kernel_rfl) (by kernel_rfl) (fun _ _ _ h => h) (Or.inl ⟨by rfl, fun w' hS' => ?_⟩) (by assumption) ?_
  rotate_left
  · (try dsimp only at hS'); go_simp; (try rw [if_pos (by omega)]); try with_reducible rfl
  try simp only [Act.put, List.getElem_toArray, List.getElem_cons_zero, List.getElem_cons_succ, List.setIfInBounds_toArray, List.set_cons_zero, List.set_cons_succ]
  refine wpAnyH_take (i := 2) (v := ?_) rfl (by kernel_rfl) (by kernel_rfl) (by kernel_rfl) (fun _ _ _ h => h) (Or.inl ⟨by rfl, fun w' hS' => ?_⟩) (by assumption) ?_
  rotate_left
  · (try dsimp only at hS'); go_simp; (try rw [if_pos (by omega)]); try with_reducible rfl
  try simp only [Act.put, List.getElem_toArray, List.getElem_cons_zero, List.getElem_cons_succ, List.setIfInBounds_toArray, List.set_cons_zero, List.set_cons_succ]
  refine wpAnyH_ready (rs := [3]) (by kernel_rfl) (by simp) ?_
  refine AllReadyH.cons rfl (fun K' hK => ?_) AllReadyH.nil
  refine if_yes (by rfl) ?_
  try simp only [Act.put, List.getElem_toArray, List.getElem_cons_zero, List.getElem_cons_succ, List.setIfInBounds_toArray, List.set_cons_zero, List.set_cons_succ]
  go_simp
  refine (impl_lastTime _ l _ H1.out (by rw [← hN.out]; exact hlen)).mono ?_
  rintro e w2 ⟨rfl, rfl⟩
  rw [← hy.out]
  go_wp2_with fail
  refine hK.out _ _ ?_ (fun hHeld => ?_)
  · exact ⟨A0.cell0 rfl, A0.cell0 rfl⟩
  clear hK K'
  try simp only [Act.put, List.getElem_toArray, List.getElem_cons_zero, List.getElem_cons_succ, List.setIfInBounds_toArray, List.set_cons_zero, List.set_cons_succ]
  refine wpAnyH_ready (rs := [4]) (by kernel_rfl) (by simp) ?_
  refine AllReadyH.cons rfl (fun K' hK => ?_) AllReadyH.nil
  refine if_yes (by rfl) ?_
  try simp only [Act.put, List.getElem_toArray, List.getElem_cons_zero, List.getElem_cons_succ, List.setIfInBounds_toArray, List.set_cons_zero, List.set_cons_succ]
  go_simp
  refine (impl_VerdictOf p _ _ l y _ (V.out.ext E) H1.out (by rw [← hN.out]; exact hlen)).mono ?_
  rintro e w3 ⟨rfl, hb3⟩
  obtain ⟨v, hv⟩ : ∃ v, Hid (v = p.verdict l y) := ⟨_, rfl⟩
  rw [← hv.out]
  have A0 := A0.ext hb3
  have E := ext_trans E hb3
  go_wp2_with fail
  refine hK.out _ _ ?_ (fun hHeld => ?_)
  · exact ⟨A0.cell0 rfl, A0.cell0 rfl⟩
  clear hK K'
  try simp only [Act.put, List.getElem_toArray, List.getElem_cons_zero, List.getElem_cons_succ, List.setIfInBounds_toArray, List.set_cons_zero, List.set_cons_succ]
  refine wpAnyH_take (i := 5) (v := ?_) rfl (by kernel_rfl) (by kernel_rfl) (by kernel_rfl) (fun _ _ _ h => h) (Or.inl ⟨by rfl, fun w' hS' => ?_⟩) (by assumption) ?_
  rotate_left
  · (try dsimp only at hS'); go_simp; (try rw [if_pos (by omega)]); try with_reducible rfl
  try simp only [Act.put, List.getElem_toArray, List.getElem_cons_zero, List.getElem_cons_succ, List.setIfInBounds_toArray, List.set_cons_zero, List.set_cons_succ]
  refine wpAnyH_take (i := 6) (v := ?_) rfl (by kernel_rfl) (by kernel_rfl) (by kernel_rfl) (fun _ _ _ h => h) (Or.inl ⟨by rfl, fun w' hS' => ?_⟩) (by assumption) ?_
  rotate_left
  · (try dsimp only at hS'); go_simp; (try rw [if_pos (by omega)]); try with_reducible rfl
  try simp only [Act.put, List.getElem_toArray, List.getElem_cons_zero, List.getElem_cons_succ, List.setIfInBounds_toArray, List.set_cons_zero, List.set_cons_succ]
  refine wpAnyH_done (by kernel_rfl) ?_ _
  try simp only [Act.put, List.setIfInBounds_toArray, List.set_cons_zero, List.set_cons_succ]
  go_wp2_with fail
  go_ret
  exact ⟨by rw [hv.out, hy.out]; rfl, E⟩
set_option maxRecDepth 100000 in
set_option maxHeartbeats 4000000 in
theorem impl_FirstBad (p : Pl) (bs lv : Value) (l : List Hp) (w : World) (hv : Bds w 0 bs p.bs) (hh : Hps w 0 lv l) (hlen : l.length ≤ 2000000) :
    Calls Try.prog 34 #[.agg #[.int .i64 p.pts, bs], lv] w fun e w' => e = .returned (.int .i64 (p.firstBad l)) ∧ Below w.heap.size w w' := by
  have V := Lib.hid hv
  have H := Lib.hid hh
  obtain ⟨a, c, rfl, hn, hc, -⟩ := hv.open
  obtain ⟨al, cl, rfl, hnl, hcl, -⟩ := hh.open
  obtain ⟨N, hN⟩ : ∃ N, Hid (N = l.length) := ⟨_, rfl⟩
  rw [← hN.out] at hnl hlen ⊢
  clear hv hh
  go_enter Try.func34, Try.ntmps34
  go_wp2_with fail
  obtain ⟨W, hW, A0, hs, E⟩ := one_box w #[.int .i64 p.pts, .slice a p.bs.length c] 25
  rw [← hW.out]
  obtain ⟨rc0, rz0⟩ := (A0).rules; have rl0 := (A0).lt
  go_wp2_with fail
  refine (impl_HeardOk p _ _ l _ (V.out.ext E) (show Hps _ 0 (.slice al N cl) l by rw [hN.out]; exact H.out.ext E) (by rw [← hN.out]; exact hlen)).mono ?_
  rintro e w1 ⟨rfl, hb1⟩
  clear rc0 rz0 rl0
  have A0 := A0.ext hb1
  have E := ext_trans E hb1
  clear hb1
  cases hd : p.heard l
  · have Hf : Hid (p.firstBad l = -1) := by unfold Pl.firstBad; rw [if_neg (by rw [hd]; simp)]; exact Lib.hid rfl
    clear hd
    go_wp2_with fail
    go_ret
    exact ⟨by rw [Hf.out]; rfl, E⟩
  have Hd := Lib.hid hd
  clear hd
  go_wp2_with fail
  go_loopg [13] (N + 1) (fun m kk wr => ∃ k : Nat, k ≤ N + 1 ∧ m = N + 1 - k ∧ kk = .int .i64 k ∧ Below w1.heap.size w1 wr ∧ Hid (∀ j, j < k → p.brokenAt l j = false))
  case atStart => exact ⟨0, by omega, by omega, rfl, ext_refl _, Lib.hid fun j hj => by omega⟩
  case round =>
    obtain ⟨k, hk, hgk, rfl, hb, Hall⟩ := hrel
    have Hk := Lib.hid hgk
    clear hgk
    have A1 := A0.ext hb
    have Ew := ext_trans E hb
    by_cases hlk : k < N + 1
    · have hkcl : k ≤ cl := by omega
      have hkcli : (k : Int) ≤ (cl : Int) := by omega
      have hlki : (k : Int) < (N : Int) + 1 := by omega
      go_wp2_with fail
      refine wp_region_held_drew (S := fun w' => w'.cell? ⟨w.heap.size, 0, none⟩ = some (.int .i64 p.pts) ∧ w'.cell? ⟨w.heap.size, 1, none⟩ = some (.slice a p.bs.length c)) (by kernel_rfl) ?_ (fun hHeld => ?_)
      · exact ⟨A1.cell0 rfl, A1.cell0 rfl⟩
      obtain ⟨dw, hdw⟩ : ∃ d', Hid (d' = wr.drew) := ⟨_, rfl⟩
      have Ed : Below wr.heap.size wr dw := by rw [hdw.out]; exact ext_drew (ext_refl _)
      rw [← hdw.out] at hHeld ⊢
      have A1 := A1.ext Ed
      have hb := ext_trans hb Ed
      have Ew := ext_trans Ew Ed
      clear Ed
      try simp only [Act.put, List.setIfInBounds_toArray, List.set_cons_zero, List.set_cons_succ]
      refine wpAnyH_take (i := 0) (v := ?_) rfl (by kernel_rfl) (by kernel_rfl) (by kernel_rfl) (fun _ _ _ h => h) (Or.inl ⟨by rfl, fun w' hS' => ?_⟩) (by assumption) ?_
      rotate_left
      · (try dsimp only at hS'); go_simp; (try rw [if_pos (by omega)]); try with_reducible rfl
      try simp only [Act.put, List.getElem_toArray, List.getElem_cons_zero, List.getElem_cons_succ, List.setIfInBounds_toArray, List.set_cons_zero, List.set_cons_succ]
      refine wpAnyH_take (i := 1) (v := ?_) rfl (by kernel_rfl) (by kernel_rfl) (by kernel_rfl) (fun _ _ _ h => h) (Or.inl ⟨by rfl, fun w' hS' => ?_⟩) (by assumption) ?_
      rotate_left
      · (try dsimp only at hS'); go_simp; (try rw [if_pos (by omega)]); try with_reducible rfl
      try simp only [Act.put, List.getElem_toArray, List.getElem_cons_zero, List.getElem_cons_succ, List.setIfInBounds_toArray, List.set_cons_zero, List.set_cons_succ]
      refine wpAnyH_take (i := 2) (v := ?_) rfl (by kernel_rfl) (by kernel_rfl) (by kernel_rfl) (fun _ _ _ h => h) (Or.inl ⟨by rfl, fun w' hS' => ?_⟩) (by assumption) ?_
      rotate_left
      · (try dsimp only at hS'); go_simp; (try rw [if_pos (by omega)]); try with_reducible rfl
      try simp only [Act.put, List.getElem_toArray, List.getElem_cons_zero, List.getElem_cons_succ, List.setIfInBounds_toArray, List.set_cons_zero, List.set_cons_succ]
      refine wpAnyH_take (i := 3) (v := ?_) rfl (by kernel_rfl) (by kernel_rfl) (by kernel_rfl) (fun _ _ _ h => h) (Or.inl ⟨by rfl, fun w' hS' => ?_⟩) (by assumption) ?_
      rotate_left
      · (try dsimp only at hS'); go_simp; (try rw [if_pos (by omega)]); try with_reducible rfl
      try simp only [Act.put, List.getElem_toArray, List.getElem_cons_zero, List.getElem_cons_succ, List.setIfInBounds_toArray, List.set_cons_zero, List.set_cons_succ]
      refine wpAnyH_ready (rs := [4]) (by kernel_rfl) (by simp) ?_
      refine AllReadyH.cons rfl (fun K' hK => ?_) AllReadyH.nil
      refine if_yes (by rfl) ?_
      try simp only [Act.put, List.getElem_toArray, List.getElem_cons_zero, List.getElem_cons_succ, List.setIfInBounds_toArray, List.set_cons_zero, List.set_cons_succ]
      go_simp
      refine (impl_broken p _ _ (l.take k) _ (V.out.ext Ew) (Hps.takeK (n := N) (by rw [hN.out]; exact H.out.ext Ew) (by rw [← hN.out]; omega)) (by rw [List.length_take]; omega)).mono ?_
      rintro e w3 ⟨rfl, hb3⟩
      obtain ⟨b, hbb⟩ : ∃ v, Hid (v = p.brokenAt l k) := ⟨_, rfl⟩
      rw [show decide (p.verdict (l.take k) (lastT (l.take k)) = 2) = b from hbb.out.symm]
      have A1 := A1.ext hb3
      have hb := ext_trans hb hb3
      have Ew := ext_trans Ew hb3
      go_wp2_with fail
      refine hK.out _ _ ?_ (fun hHeld => ?_)
      · exact ⟨A1.cell0 rfl, A1.cell0 rfl⟩
      clear hK K'
      try simp only [Act.put, List.getElem_toArray, List.getElem_cons_zero, List.getElem_cons_succ, List.setIfInBounds_toArray, List.set_cons_zero, List.set_cons_succ]
      refine wpAnyH_done (by kernel_rfl) ?_ _
      try simp only [Act.put, List.setIfInBounds_toArray, List.set_cons_zero, List.set_cons_succ]
      cases hbv : b
      · have Hb : Hid (p.brokenAt l k = false) := by rw [← hbb.out]; exact Lib.hid hbv
        clear hbv
        go_wp2_with fail
        go_roundg (N + 1 - (k+1))
        case rel =>
          refine ⟨k+1, by omega, rfl, by go_num, hb, Lib.hid fun j hj => ?_⟩
          by_cases e : j = k
          · subst e; exact Hb.out
          · exact Hall.out j (by omega)
        case measure => have := Hk.out; omega
      · have Hf : Hid (p.firstBad l = k) := Lib.hid (bad_found Hd.out (by rw [← hN.out]; omega) (by rw [← hbb.out]; exact hbv) Hall.out)
        clear hbv
        go_wp2_with fail
        go_ret
        exact ⟨by rw [Hf.out]; rfl, Ew⟩
    · have hkN : k = N + 1 := by omega
      have hlki : ¬ (k : Int) < (N : Int) + 1 := by omega
      have Hf : Hid (p.firstBad l = -1) := Lib.hid (bad_none Hd.out fun j hj => Hall.out j (by rw [hkN, hN.out]; omega))
      go_wp2_with fail
      go_ret
      exact ⟨by rw [Hf.out]; rfl, Ew⟩
end Go.Proofs.Ytffcfambgcaikaa
