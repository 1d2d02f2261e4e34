/- The walks of FirstBad and EndedBy of spec. Conditions: the bounds and the happenings can be read, at most two million. -/
import Derived.Test.YtffcfambgcaikaaWaitS
namespace Go.Proofs.Ytffcfambgcaikaa
open Go.RowKit
set_option linter.unusedVariables false
set_option linter.unusedSimpArgs false
theorem hpcells_take (l : List Hp) (k : Nat) : (hpcells l).take (k * 2) = hpcells (l.take k) := by
  by_cases hk : k ≤ l.length
  · have h1 : hpcells l = hpcells (l.take k) ++ hpcells (l.drop k) := by rw [← hpcells_append, List.take_append_drop]
    have h2 : (hpcells (l.take k)).length = k * 2 := by rw [hpcells_length, List.length_take, Nat.min_eq_left hk]
    rw [h1, ← h2, List.take_left]
  · rw [List.take_of_length_le (by rw [hpcells_length]; omega), List.take_of_length_le (by omega)]
theorem Hps.takeK {w : World} {base n cap : Nat} {a : Option Addr} {l : List Hp} (h : Hps w base (.slice a n cap) l) {k : Nat} (hk : k ≤ l.length) : Hps w base (.slice a k cap) (l.take k) := by
  obtain ⟨h1, h2⟩ := h
  have hkl : (l.take k).length = k := by rw [List.length_take]; omega
  refine ⟨by rw [hpcells_length, hkl], ?_⟩
  rcases h2 with ⟨he, hn⟩ | ⟨g, cap', cur, he, hg, hh, hn, hc, hs, hx⟩
  · cases he
    have hk0 : k = 0 := by omega
    subst hk0
    exact .inl ⟨rfl, rfl⟩
  · cases he
    refine .inr ⟨g, cap, cur, by rw [hkl], hg, hh, by omega, hc, hs, ?_⟩
    rw [← hpcells_take, ← hx, List.take_take, hkl, Nat.min_eq_left (by omega)]
theorem last_take {l : List Hp} {k : Nat} (hk : k ≤ l.length) : lastT (l.take k) = if k = 0 then 0 else (hA l (k-1)).tm := by
  unfold lastT
  rw [List.length_take, Nat.min_eq_left hk]
  split
  · rfl
  · rw [hA_take l (by omega)]
theorem bad_iff {p : Pl} {l : List Hp} {k : Nat} {y v : Int} (hy : y = lastT (l.take k)) (hv : v = p.verdict (l.take k) y) : p.brokenAt l k = decide (v = 2) := by
  subst hv; subst hy; rfl
set_option maxRecDepth 100000 in
set_option maxHeartbeats 8000000 in
theorem spec_FirstBad (p : Pl) (bs lv : Value) (l : List Hp) (w : World) (hv : Bds w 0 bs p.bs) (hh : Hps w 0 lv l) (hlen : l.length ≤ 2000000) :
    Calls Try.prog 35 #[.agg #[.int .i64 p.pts, bs], lv] w fun e w' => e = .returned (.int .i64 (p.firstBad l)) ∧ Below w.heap.size w w' := by
  have V := Lib.hid hv
  have H := Lib.hid hh
  obtain ⟨a, c, rfl, hn, hc, -⟩ := hv.open
  obtain ⟨al, cl, rfl, hnl, hcl, -⟩ := hh.open
  obtain ⟨N, hN⟩ : ∃ N, Hid (N = l.length) := ⟨_, rfl⟩
  rw [← hN.out] at hnl hlen ⊢
  clear hv hh
  go_enter Try.func35, Try.ntmps35
  go_wp2_with fail
  obtain ⟨W, hW, A0, hs, E⟩ := one_box w #[.int .i64 p.pts, .slice a p.bs.length c] 25
  rw [← hW.out]
  obtain ⟨rc0, rz0⟩ := (A0).rules; have rl0 := (A0).lt
  go_wp2_with fail
  refine (spec_HeardOk p _ _ l _ (V.out.ext E) (show Hps _ 0 (.slice al N cl) l by rw [hN.out]; exact H.out.ext E) (by rw [← hN.out]; exact hlen)).mono ?_
  rintro e w1 ⟨rfl, hb1⟩
  clear rc0 rz0 rl0
  have A0 := A0.ext hb1
  have E := ext_trans E hb1
  clear hb1
  cases hd : p.heard l
  · have Hf : Hid (p.firstBad l = -1) := by unfold Pl.firstBad; rw [if_neg (by rw [hd]; simp)]; exact Lib.hid rfl
    clear hd
    go_wp2_with fail
    go_ret
    exact ⟨by rw [Hf.out]; rfl, E⟩
  have Hd := Lib.hid hd
  clear hd
  go_wp2_with fail
  go_loopg [5] (N + 1) (fun m kk wr => ∃ k : Nat, k ≤ N + 1 ∧ m = N + 1 - k ∧ kk = .int .i64 k ∧ Below w1.heap.size w1 wr ∧ Hid (∀ j, j < k → p.brokenAt l j = false))
  case atStart => exact ⟨0, by omega, by omega, rfl, ext_refl _, Lib.hid fun j hj => by omega⟩
  case round =>
    obtain ⟨k, hk, hgk, rfl, hb, Hall⟩ := hrel
    have Hk := Lib.hid hgk
    clear hgk
    have A1 := A0.ext hb
    have Ew := ext_trans E hb
    have hki : ((k : Int) ≤ (N : Int)) ↔ k ≤ N := by omega
    clear hki
    by_cases hlk : k ≤ N
    · obtain ⟨y, hy⟩ : ∃ x, Hid (x = lastT (l.take k)) := ⟨_, rfl⟩
      go_upto_if 18 with fail
      go_cut [6] (fun v6 wx => v6 = .int .i64 y ∧ wx = wr)
      case first =>
        by_cases hk0 : 0 < k
        · have hk0i : (0 : Int) < (k : Int) := by omega
          obtain ⟨g, ha, hg, -, cy⟩ := (H.out.ext Ew).atA (j := k - 1) (by rw [← hN.out]; omega)
          subst ha
          rw [show (hA l (k-1)).tm = y by rw [hy.out, last_take (by rw [← hN.out]; exact hlk), if_neg (by omega)]] at cy
          have hk1 : (k : Int) - 1 = ((k - 1 : Nat) : Int) := by omega
          have hk1N : k - 1 < N := by omega
          have hk1i : 0 ≤ (k : Int) - 1 := by omega
          have hk1M : (k : Int) - 1 < (N : Int) := by omega
          have hk1n : ((k : Int) - 1).toNat = k - 1 := by omega
          go_wp2_with fail
          go_meet
          exact ⟨rfl, rfl⟩
        · have hk0i : ¬ (0 : Int) < (k : Int) := by omega
          have hy0 : y = 0 := by rw [hy.out, last_take (by rw [← hN.out]; exact hlk), if_pos (by omega)]
          go_wp2_with fail
          go_meet
          exact ⟨by rw [hy0], rfl⟩
      rename World => wt
      obtain ⟨rfl, rfl⟩ := hcut
      have hkcl : k ≤ cl := by omega
      have hkcli : (k : Int) ≤ (cl : Int) := by omega
      go_wp2_with fail
      refine wp_region_held_drew (S := fun w' => w'.cell? ⟨w.heap.size, 0, none⟩ = some (.int .i64 p.pts) ∧ w'.cell? ⟨w.heap.size, 1, none⟩ = some (.slice a p.bs.length c)) (by kernel_rfl) ?_ (fun hHeld => ?_)
      · exact ⟨A1.cell0 rfl, A1.cell0 rfl⟩
      obtain ⟨dw, hdw⟩ : ∃ d', Hid (d' = wt.drew) := ⟨_, rfl⟩
      have Ed : Below wt.heap.size wt dw := by rw [hdw.out]; exact ext_drew (ext_refl _)
      rw [← hdw.out] at hHeld ⊢
      have A1 := A1.ext Ed
      have hb := ext_trans hb Ed
      have Ew := ext_trans Ew Ed
      clear Ed
      try simp only [Act.put, List.setIfInBounds_toArray, List.set_cons_zero, List.set_cons_succ]
      refine wpAnyH_take (i := 0) (v := ?_) rfl (by kernel_rfl) (by kernel_rfl) (by kernel_rfl) (fun _ _ _ h => h) (Or.inl ⟨by rfl, fun w' hS' => ?_⟩) (by assumption) ?_
      rotate_left
      · (try dsimp only at hS'); go_simp; (try rw [if_pos (by omega)]); try with_reducible rfl
      try simp only [Act.put, List.getElem_toArray, List.getElem_cons_zero, List.getElem_cons_succ, List.setIfInBounds_toArray, List.set_cons_zero, List.set_cons_succ]
      refine wpAnyH_take (i := 1) (v := ?_) rfl (by kernel_rfl) (by kernel_rfl) (by kernel_rfl) (fun _ _ _ h => h) (Or.inl ⟨by rfl, fun w' hS' => ?_⟩) (by assumption) ?_
      rotate_left
      · (try dsimp only at hS'); go_simp; (try rw [if_pos (by omega)]); try with_reducible rfl
      try simp only [Act.put, List.getElem_toArray, List.getElem_cons_zero, List.getElem_cons_succ, List.setIfInBounds_toArray, List.set_cons_zero, List.set_cons_succ]
      refine wpAnyH_take (i := 2) (v := ?_) rfl (by kernel_rfl) (by kernel_rfl) (by kernel_rfl) (fun _ _ _ h => h) (Or.inl ⟨by rfl, fun w' hS' => ?_⟩) (by assumption) ?_
      rotate_left
      · (try dsimp only at hS'); go_simp; (try rw [if_pos (by omega)]); try with_reducible rfl
      try simp only [Act.put, List.getElem_toArray, List.getElem_cons_zero, List.getElem_cons_succ, List.setIfInBounds_toArray, List.set_cons_zero, List.set_cons_succ]
      refine wpAnyH_take (i := 3) (v := ?_) rfl (by kernel_rfl) (by kernel_rfl) (by kernel_rfl) (fun _ _ _ h => h) (Or.inl ⟨by rfl, fun w' hS' => ?_⟩) (by assumption) ?_
      rotate_left
      · (try dsimp only at hS'); go_simp; (try rw [if_pos (by omega)]); try with_reducible rfl
      try simp only [Act.put, List.getElem_toArray, List.getElem_cons_zero, List.getElem_cons_succ, List.setIfInBounds_toArray, List.set_cons_zero, List.set_cons_succ]
      refine wpAnyH_take (i := 4) (v := ?_) rfl (by kernel_rfl) (by kernel_rfl) (by kernel_rfl) (fun _ _ _ h => h) (Or.inl ⟨by rfl, fun w' hS' => ?_⟩) (by assumption) ?_
      rotate_left
      · (try dsimp only at hS'); go_simp; (try rw [if_pos (by omega)]); try with_reducible rfl
      try simp only [Act.put, List.getElem_toArray, List.getElem_cons_zero, List.getElem_cons_succ, List.setIfInBounds_toArray, List.set_cons_zero, List.set_cons_succ]
      refine wpAnyH_ready (rs := [5]) (by kernel_rfl) (by simp) ?_
      refine AllReadyH.cons rfl (fun K' hK => ?_) AllReadyH.nil
      refine if_yes (by rfl) ?_
      try simp only [Act.put, List.getElem_toArray, List.getElem_cons_zero, List.getElem_cons_succ, List.setIfInBounds_toArray, List.set_cons_zero, List.set_cons_succ]
      go_simp
      refine (spec_VerdictOf p _ _ (l.take k) y _ (V.out.ext Ew) (Hps.takeK (n := N) (by rw [hN.out]; exact H.out.ext Ew) (by rw [← hN.out]; exact hlk)) (by rw [List.length_take]; omega)).mono ?_
      rintro e w3 ⟨rfl, hb3⟩
      obtain ⟨v, hv⟩ : ∃ v, Hid (v = p.verdict (l.take k) y) := ⟨_, rfl⟩
      rw [← hv.out]
      have A1 := A1.ext hb3
      have hb := ext_trans hb hb3
      have Ew := ext_trans Ew hb3
      go_wp2_with fail
      refine hK.out _ _ ?_ (fun hHeld => ?_)
      · exact ⟨A1.cell0 rfl, A1.cell0 rfl⟩
      clear hK K'
      try simp only [Act.put, List.getElem_toArray, List.getElem_cons_zero, List.getElem_cons_succ, List.setIfInBounds_toArray, List.set_cons_zero, List.set_cons_succ]
      refine wpAnyH_take (i := 6) (v := ?_) rfl (by kernel_rfl) (by kernel_rfl) (by kernel_rfl) (fun _ _ _ h => h) (Or.inl ⟨by rfl, fun w' hS' => ?_⟩) (by assumption) ?_
      rotate_left
      · (try dsimp only at hS'); go_simp; (try rw [if_pos (by omega)]); try with_reducible rfl
      try simp only [Act.put, List.getElem_toArray, List.getElem_cons_zero, List.getElem_cons_succ, List.setIfInBounds_toArray, List.set_cons_zero, List.set_cons_succ]
      refine wpAnyH_done (by kernel_rfl) ?_ _
      try simp only [Act.put, List.setIfInBounds_toArray, List.set_cons_zero, List.set_cons_succ]
      by_cases hv2 : v = 2
      · have hvb : (v == 2) = true := by simp [hv2]
        have Hf : Hid (p.firstBad l = k) := Lib.hid (bad_found Hd.out (by rw [← hN.out]; exact hlk) (by rw [bad_iff hy.out hv.out]; exact decide_eq_true hv2) Hall.out)
        have Hv2 := Lib.hid hv2
        clear hv2
        go_wp2_with fail
        go_ret
        exact ⟨by rw [Hf.out]; rfl, Ew⟩
      · have hvb : (v == 2) = false := by simp [hv2]
        have Hb : Hid (p.brokenAt l k = false) := by rw [bad_iff hy.out hv.out]; exact Lib.hid (decide_eq_false hv2)
        have Hv2 := Lib.hid hv2
        clear hv2
        go_wp2_with fail
        go_roundg (N + 1 - (k+1))
        case rel =>
          refine ⟨k+1, by omega, rfl, by go_num, hb, Lib.hid fun j hj => ?_⟩
          by_cases e : j = k
          · subst e; exact Hb.out
          · exact Hall.out j (by omega)
        case measure => have := Hk.out; omega
    · have hkN : k = N + 1 := by omega
      subst hkN
      have Hf : Hid (p.firstBad l = -1) := Lib.hid (bad_none Hd.out fun j hj => Hall.out j (by rw [hN.out]; omega))
      go_wp2_with fail
      go_ret
      exact ⟨by rw [Hf.out]; rfl, Ew⟩
end Go.Proofs.Ytffcfambgcaikaa
