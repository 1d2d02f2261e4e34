/- The walk of FnExactWithBound: it returns true, whatever plan and bound came in. No condition. -/
import Derived.Test.YtcjdodjjdchnaaaLawPlan
import Derived.Test.YtcjdodjjdchnaaaPlanOut
namespace Go.Proofs.Ytcjdodjjdchnaaa
open Go.RowKit
set_option linter.unusedVariables false
set_option linter.unusedSimpArgs false
set_option maxRecDepth 100000 in
set_option maxHeartbeats 8000000 in
theorem walk_ExactWithBound (pts0 : Int) (a0 : Option Addr) (n0 cap0 : Nat) (l0 : List Bd) (b1 : Bd) (w : World) (h0 : ABds w a0 n0 cap0 l0)  :
    Calls Try.prog 11 #[.agg #[.int .i64 pts0, .slice a0 n0 cap0], .agg #[.int .i64 b1.f, .int .i64 b1.t, .int .i64 b1.m]] w fun e w' => e = .returned (.bool true) ∧ Below w.heap.size w w' := by
  obtain ⟨hl0, hcap0, hmax0, -⟩ := id h0
  have H0 := Lib.hid h0
  have HL0 := Lib.hid hl0
  clear h0 hl0
  by_cases hbig0 : (1048576 : Int) - n0 < 0
  · have Hs0 := Lib.hid (szR_neg hbig0)
    go_enter Try.func11, Try.ntmps11
    go_wp2_with fail
    obtain ⟨W, hW, A0, A1, -, E⟩ := two_boxes w #[Value.int .i64 pts0, .slice a0 n0 cap0] #[Value.int .i64 b1.f, .int .i64 b1.t, .int .i64 b1.m] 50 68
    rw [← hW.out]
    refine (laws_szPlan pts0 a0 n0 cap0 _ _ (by omega) (by omega) (by omega)).mono ?_
    rintro e v0 ⟨rfl, hb0⟩
    rw [Hs0.out]
    have E := ext_trans E hb0
    have A0 := A0.ext hb0
    have A1 := A1.ext hb0
    obtain ⟨rcA0, rzA0⟩ := (A0).rules; have rlA0 := (A0).lt
    obtain ⟨rcA1, rzA1⟩ := (A1).rules; have rlA1 := (A1).lt
    go_wp2_with fail
    go_ret
    exact ⟨rfl, E⟩
  · have Hs0 := Lib.hid (szR_pos hbig0)
    have hn0 : n0 ≤ 1048576 := by omega
    go_enter Try.func11, Try.ntmps11
    go_wp2_with fail
    obtain ⟨W, hW, A0, A1, -, E⟩ := two_boxes w #[Value.int .i64 pts0, .slice a0 n0 cap0] #[Value.int .i64 b1.f, .int .i64 b1.t, .int .i64 b1.m] 50 68
    rw [← hW.out]
    refine (laws_szPlan pts0 a0 n0 cap0 _ _ (by omega) (by omega) (by omega)).mono ?_
    rintro e w1 ⟨rfl, hb1⟩
    have A0 := A0.ext hb1
    have A1 := A1.ext hb1
    have E := ext_trans E hb1
    have q1 := hb1.size
    rw [Hs0.out]
    obtain ⟨rcA0, rzA0⟩ := (A0).rules; have rlA0 := (A0).lt
    obtain ⟨rcA1, rzA1⟩ := (A1).rules; have rlA1 := (A1).lt
    go_wp2_with fail
    obtain ⟨P', hP'⟩ : ∃ P' : Pl, Hid (P' = ((⟨pts0, l0⟩ : Pl).plus [b1]).told) := ⟨_, rfl⟩
    obtain ⟨b', hb'⟩ : ∃ b' : Bool, Hid (b' = ((⟨pts0, l0⟩ : Pl).plus [b1]).ok) := ⟨_, rfl⟩
    have hlp0 : l0.length ≤ 1048576 := by have := HL0.out; omega
    have hPl : P'.bs.length ≤ 2000000 := by rw [hP'.out]; unfold Pl.told; split <;> simp [Pl.zero, Pl.plus]; omega
    go_cut [6, 7] (fun v6 v7 wx => OutPlanB w1 P' b' v6 v7 wx)
    case first =>
      have E0 := E
      refine wp_region_held_drew (S := fun w' => w'.cell? ⟨w.heap.size, 0, none⟩ = some (Value.int .i64 pts0) ∧ w'.cell? ⟨w.heap.size, 1, none⟩ = some (Value.slice a0 n0 cap0) ∧ w'.cell? ⟨w.heap.size + 1, 0, none⟩ = some (Value.int .i64 b1.f) ∧ w'.cell? ⟨w.heap.size + 1, 1, none⟩ = some (Value.int .i64 b1.t) ∧ w'.cell? ⟨w.heap.size + 1, 2, none⟩ = some (Value.int .i64 b1.m)) (by kernel_rfl) ?_ (fun hHeld => ?_)
      · exact ⟨(A0.drew).cell0 rfl, (A0.drew).cell0 rfl, (A1.drew).cell0 rfl, (A1.drew).cell0 rfl, (A1.drew).cell0 rfl⟩
      have E := ext_drew (ext_refl w1)
      obtain ⟨D, hD⟩ : ∃ D, Hid (D = w1.drew) := ⟨_, rfl⟩
      rw [← hD.out] at E hHeld ⊢
      try simp only [Act.put, List.setIfInBounds_toArray, List.set_cons_zero, List.set_cons_succ]
      refine wpAnyH_take (i := 0) (v := ?_) rfl (by kernel_rfl) (by kernel_rfl) (by kernel_rfl) (fun _ _ _ h => h) (Or.inl ⟨by rfl, fun w' hS' => ?_⟩) (by assumption) ?_
      rotate_left
      · (try dsimp only at hS'); go_simp; (try rw [if_pos (by omega)]); try with_reducible rfl
      try simp only [Act.put, List.getElem_toArray, List.getElem_cons_zero, List.getElem_cons_succ, List.setIfInBounds_toArray, List.set_cons_zero, List.set_cons_succ]
      refine wpAnyH_take (i := 2) (v := ?_) rfl (by kernel_rfl) (by kernel_rfl) (by kernel_rfl) (fun _ _ _ h => h) (Or.inl ⟨by rfl, fun w' hS' => ?_⟩) (by assumption) ?_
      rotate_left
      · (try dsimp only at hS'); go_simp; (try rw [if_pos (by omega)]); try with_reducible rfl
      try simp only [Act.put, List.getElem_toArray, List.getElem_cons_zero, List.getElem_cons_succ, List.setIfInBounds_toArray, List.set_cons_zero, List.set_cons_succ]
      refine wpAnyH_ready (rs := [1, 8]) (by kernel_rfl) (by simp) ?_
      refine AllReadyH.cons rfl (fun K' hK => ?_) (AllReadyH.cons rfl (fun K' hK => ?_) AllReadyH.nil)
      · refine if_yes (by rfl) ?_
        try simp only [Act.put, List.setIfInBounds_toArray, List.set_cons_zero, List.set_cons_succ]
        go_simp
        refine (laws_toPlan pts0 a0 n0 cap0 l0 _ (H0.out.ext (ext_trans E0 E)) (by omega)).mono ?_
        rintro e u1x ⟨r0, rfl, hr0, hb⟩
        have E := ext_trans E hb
        clear hb
        go_wp2_with fail
        refine hK.out _ _ ?_ (fun hHeld => ?_)
        · exact ⟨(A0.ext E).cell0 rfl, (A0.ext E).cell0 rfl, (A1.ext E).cell0 rfl, (A1.ext E).cell0 rfl, (A1.ext E).cell0 rfl⟩
        clear hK K'
        try simp only [Act.put, List.setIfInBounds_toArray, List.set_cons_zero, List.set_cons_succ]
        refine wpAnyH_ready (rs := [3, 8]) (by kernel_rfl) (by simp) ?_
        refine AllReadyH.cons rfl (fun K' hK => ?_) (AllReadyH.cons rfl (fun K' hK => ?_) AllReadyH.nil)
        · refine if_yes (by rfl) ?_
          try simp only [Act.put, List.setIfInBounds_toArray, List.set_cons_zero, List.set_cons_succ]
          go_simp
          refine (laws_toBound b1 _).mono ?_
          rintro e u2x ⟨rfl, hb⟩
          have E := ext_trans E hb
          have hr0 := hr0.ext hb
          clear hb
          go_wp2_with fail
          refine hK.out _ _ ?_ (fun hHeld => ?_)
          · exact ⟨(A0.ext E).cell0 rfl, (A0.ext E).cell0 rfl, (A1.ext E).cell0 rfl, (A1.ext E).cell0 rfl, (A1.ext E).cell0 rfl⟩
          clear hK K'
          try simp only [Act.put, List.setIfInBounds_toArray, List.set_cons_zero, List.set_cons_succ]
          refine wpAnyH_ready (rs := [4, 8]) (by kernel_rfl) (by simp) ?_
          refine AllReadyH.cons rfl (fun K' hK => ?_) (AllReadyH.cons rfl (fun K' hK => ?_) AllReadyH.nil)
          · refine if_yes (by rfl) ?_
            try simp only [Act.put, List.setIfInBounds_toArray, List.set_cons_zero, List.set_cons_succ]
            go_simp
            refine (spec_WithBound (⟨pts0, l0⟩ : Pl) b1 _ _ (hr0.base (Nat.zero_le _)) (by simp; omega)).mono ?_
            rintro e u3x ⟨rw, rfl, hrow, hb⟩
            rw [← hP'.out] at hrow ⊢
            rw [← hb'.out]
            have hrow := hrow.base E.size
            have E := ext_trans E hb
            clear hb
            obtain ⟨aw, cw, rfl, -⟩ := hrow.open
            go_wp2_with fail
            refine hK.out _ _ ?_ (fun hHeld => ?_)
            · exact ⟨(A0.ext E).cell0 rfl, (A0.ext E).cell0 rfl, (A1.ext E).cell0 rfl, (A1.ext E).cell0 rfl, (A1.ext E).cell0 rfl⟩
            clear hK K'
            try simp only [Act.put, List.setIfInBounds_toArray, List.set_cons_zero, List.set_cons_succ]
            refine wpAnyH_take (i := 5) (v := ?_) rfl (by kernel_rfl) (by kernel_rfl) (by kernel_rfl) (fun _ _ _ h => h) (Or.inl ⟨by rfl, fun w' hS' => ?_⟩) (by assumption) ?_
            rotate_left
            · (try dsimp only at hS'); go_simp; (try rw [if_pos (by omega)]); try with_reducible rfl
            try simp only [Act.put, List.getElem_toArray, List.getElem_cons_zero, List.getElem_cons_succ, List.setIfInBounds_toArray, List.set_cons_zero, List.set_cons_succ]
            refine wpAnyH_take (i := 6) (v := ?_) rfl (by kernel_rfl) (by kernel_rfl) (by kernel_rfl) (fun _ _ _ h => h) (Or.inl ⟨by rfl, fun w' hS' => ?_⟩) (by assumption) ?_
            rotate_left
            · (try dsimp only at hS'); go_simp; (try rw [if_pos (by omega)]); try with_reducible rfl
            try simp only [Act.put, List.getElem_toArray, List.getElem_cons_zero, List.getElem_cons_succ, List.setIfInBounds_toArray, List.set_cons_zero, List.set_cons_succ]
            refine wpAnyH_take (i := 7) (v := ?_) rfl (by kernel_rfl) (by kernel_rfl) (by kernel_rfl) (fun _ _ _ h => h) (Or.inl ⟨by rfl, fun w' hS' => ?_⟩) (by assumption) ?_
            rotate_left
            · (try dsimp only at hS'); go_simp; (try rw [if_pos (by omega)]); try with_reducible rfl
            try simp only [Act.put, List.getElem_toArray, List.getElem_cons_zero, List.getElem_cons_succ, List.setIfInBounds_toArray, List.set_cons_zero, List.set_cons_succ]
            refine wpAnyH_ready (rs := [8]) (by kernel_rfl) (by simp) ?_
            refine AllReadyH.cons rfl (fun K' hK => ?_) AllReadyH.nil
            refine if_yes (by rfl) ?_
            try simp only [Act.put, List.setIfInBounds_toArray, List.set_cons_zero, List.set_cons_succ]
            go_simp
            have hgow : w1.heap.size ≤ u3x.heap.size := E.size
            have Bo := Box.new u3x 25 #[.int .i64 0, .slice none 0 0]
            have E := ext_alloc E (.cells #[.int .i64 0, .slice none 0 0] 25)
            obtain ⟨u4x, hu4x⟩ : ∃ u4x, Hid (u4x = u3x.alloc (.cells #[.int .i64 0, .slice none 0 0] 25)) := ⟨_, rfl⟩
            rw [← hu4x.out] at Bo E ⊢
            have hrow := hrow.alloc (.cells #[.int .i64 0, .slice none 0 0] 25)
            rw [← hu4x.out] at hrow
            refine hK.out _ _ ?_ (fun hHeld => ?_)
            · exact ⟨(A0.ext E).cell0 rfl, (A0.ext E).cell0 rfl, (A1.ext E).cell0 rfl, (A1.ext E).cell0 rfl, (A1.ext E).cell0 rfl⟩
            clear hK K'
            try simp only [Act.put, List.setIfInBounds_toArray, List.set_cons_zero, List.set_cons_succ]
            obtain ⟨rco, rzo⟩ := (Bo).rules; have rlo := (Bo).lt
            refine wpAnyH_ready (rs := [9]) (by kernel_rfl) (by simp) ?_
            refine AllReadyH.cons rfl (fun K' hK => ?_) AllReadyH.nil
            refine if_yes (by rfl) ?_
            go_simp
            have E := ext_set (ext_set E (p := ⟨u3x.heap.size, 0, none⟩) hgow (.int .i64 P'.pts)) (p := ⟨u3x.heap.size, 1, none⟩) hgow (.slice aw P'.bs.length cw)
            have hrow := own_far hrow (grown_set (i := 1) (grown_set (i := 0) (World.grownBy.refl _ (some (u3x.heap.size))) (.int .i64 P'.pts)) (.slice aw P'.bs.length cw)) (fun k hk e => own_not_box hrow Bo (by rw [hk]; exact e))
            have Bo := (Bo.set 0 (.int .i64 P'.pts)).set 1 (.slice aw P'.bs.length cw)
            refine hK.out _ _ ?_ (fun hHeld => ?_)
            · exact ⟨(A0.ext E).cell0 rfl, (A0.ext E).cell0 rfl, (A1.ext E).cell0 rfl, (A1.ext E).cell0 rfl, (A1.ext E).cell0 rfl⟩
            clear hK K'
            try simp only [Act.put, List.setIfInBounds_toArray, List.set_cons_zero, List.set_cons_succ]
            refine wpAnyH_ready (rs := [10]) (by kernel_rfl) (by simp) ?_
            refine AllReadyH.cons rfl (fun K' hK => ?_) AllReadyH.nil
            refine if_yes (by rfl) ?_
            go_simp
            refine hK.out _ _ ?_ (fun hHeld => ?_)
            · exact ⟨(A0.ext E).cell0 rfl, (A0.ext E).cell0 rfl, (A1.ext E).cell0 rfl, (A1.ext E).cell0 rfl, (A1.ext E).cell0 rfl⟩
            clear hK K'
            try simp only [Act.put, List.setIfInBounds_toArray, List.set_cons_zero, List.set_cons_succ]
            refine wpAnyH_done (by kernel_rfl) ?_ _
            try simp only [Act.put, List.setIfInBounds_toArray, List.set_cons_zero, List.set_cons_succ]
            go_wp2_with fail
            go_meet
            exact ⟨u3x.heap.size, .slice aw P'.bs.length cw, rfl, rfl, Bo, hrow, hgow, E⟩
          · refine if_yes (by rfl) ?_
            try simp only [Act.put, List.setIfInBounds_toArray, List.set_cons_zero, List.set_cons_succ]
            go_simp
            have hgow : w1.heap.size ≤ u2x.heap.size := E.size
            have Bo := Box.new u2x 25 #[.int .i64 0, .slice none 0 0]
            have E := ext_alloc E (.cells #[.int .i64 0, .slice none 0 0] 25)
            obtain ⟨u5x, hu5x⟩ : ∃ u5x, Hid (u5x = u2x.alloc (.cells #[.int .i64 0, .slice none 0 0] 25)) := ⟨_, rfl⟩
            rw [← hu5x.out] at Bo E ⊢
            have hr0 := hr0.alloc (.cells #[.int .i64 0, .slice none 0 0] 25)
            rw [← hu5x.out] at hr0
            refine hK.out _ _ ?_ (fun hHeld => ?_)
            · exact ⟨(A0.ext E).cell0 rfl, (A0.ext E).cell0 rfl, (A1.ext E).cell0 rfl, (A1.ext E).cell0 rfl, (A1.ext E).cell0 rfl⟩
            clear hK K'
            try simp only [Act.put, List.setIfInBounds_toArray, List.set_cons_zero, List.set_cons_succ]
            refine wpAnyH_ready (rs := [4]) (by kernel_rfl) (by simp) ?_
            refine AllReadyH.cons rfl (fun K' hK => ?_) AllReadyH.nil
            refine if_yes (by rfl) ?_
            try simp only [Act.put, List.setIfInBounds_toArray, List.set_cons_zero, List.set_cons_succ]
            go_simp
            refine (spec_WithBound (⟨pts0, l0⟩ : Pl) b1 _ _ (hr0.base (Nat.zero_le _)) (by simp; omega)).mono ?_
            rintro e u6x ⟨rw, rfl, hrow, hb⟩
            rw [← hP'.out] at hrow ⊢
            rw [← hb'.out]
            have hrow := hrow.base E.size
            have E := ext_trans E hb
            have Bo := Bo.ext hb
            clear hb
            obtain ⟨aw, cw, rfl, -⟩ := hrow.open
            go_wp2_with fail
            refine hK.out _ _ ?_ (fun hHeld => ?_)
            · exact ⟨(A0.ext E).cell0 rfl, (A0.ext E).cell0 rfl, (A1.ext E).cell0 rfl, (A1.ext E).cell0 rfl, (A1.ext E).cell0 rfl⟩
            clear hK K'
            try simp only [Act.put, List.setIfInBounds_toArray, List.set_cons_zero, List.set_cons_succ]
            refine wpAnyH_take (i := 5) (v := ?_) rfl (by kernel_rfl) (by kernel_rfl) (by kernel_rfl) (fun _ _ _ h => h) (Or.inl ⟨by rfl, fun w' hS' => ?_⟩) (by assumption) ?_
            rotate_left
            · (try dsimp only at hS'); go_simp; (try rw [if_pos (by omega)]); try with_reducible rfl
            try simp only [Act.put, List.getElem_toArray, List.getElem_cons_zero, List.getElem_cons_succ, List.setIfInBounds_toArray, List.set_cons_zero, List.set_cons_succ]
            refine wpAnyH_take (i := 6) (v := ?_) rfl (by kernel_rfl) (by kernel_rfl) (by kernel_rfl) (fun _ _ _ h => h) (Or.inl ⟨by rfl, fun w' hS' => ?_⟩) (by assumption) ?_
            rotate_left
            · (try dsimp only at hS'); go_simp; (try rw [if_pos (by omega)]); try with_reducible rfl
            try simp only [Act.put, List.getElem_toArray, List.getElem_cons_zero, List.getElem_cons_succ, List.setIfInBounds_toArray, List.set_cons_zero, List.set_cons_succ]
            refine wpAnyH_take (i := 7) (v := ?_) rfl (by kernel_rfl) (by kernel_rfl) (by kernel_rfl) (fun _ _ _ h => h) (Or.inl ⟨by rfl, fun w' hS' => ?_⟩) (by assumption) ?_
            rotate_left
            · (try dsimp only at hS'); go_simp; (try rw [if_pos (by omega)]); try with_reducible rfl
            try simp only [Act.put, List.getElem_toArray, List.getElem_cons_zero, List.getElem_cons_succ, List.setIfInBounds_toArray, List.set_cons_zero, List.set_cons_succ]
            obtain ⟨rco, rzo⟩ := (Bo).rules; have rlo := (Bo).lt
            refine wpAnyH_ready (rs := [9]) (by kernel_rfl) (by simp) ?_
            refine AllReadyH.cons rfl (fun K' hK => ?_) AllReadyH.nil
            refine if_yes (by rfl) ?_
            go_simp
            have E := ext_set (ext_set E (p := ⟨u2x.heap.size, 0, none⟩) hgow (.int .i64 P'.pts)) (p := ⟨u2x.heap.size, 1, none⟩) hgow (.slice aw P'.bs.length cw)
            have hrow := own_far hrow (grown_set (i := 1) (grown_set (i := 0) (World.grownBy.refl _ (some (u2x.heap.size))) (.int .i64 P'.pts)) (.slice aw P'.bs.length cw)) (fun k hk e => own_not_box hrow Bo (by rw [hk]; exact e))
            have Bo := (Bo.set 0 (.int .i64 P'.pts)).set 1 (.slice aw P'.bs.length cw)
            refine hK.out _ _ ?_ (fun hHeld => ?_)
            · exact ⟨(A0.ext E).cell0 rfl, (A0.ext E).cell0 rfl, (A1.ext E).cell0 rfl, (A1.ext E).cell0 rfl, (A1.ext E).cell0 rfl⟩
            clear hK K'
            try simp only [Act.put, List.setIfInBounds_toArray, List.set_cons_zero, List.set_cons_succ]
            refine wpAnyH_ready (rs := [10]) (by kernel_rfl) (by simp) ?_
            refine AllReadyH.cons rfl (fun K' hK => ?_) AllReadyH.nil
            refine if_yes (by rfl) ?_
            go_simp
            refine hK.out _ _ ?_ (fun hHeld => ?_)
            · exact ⟨(A0.ext E).cell0 rfl, (A0.ext E).cell0 rfl, (A1.ext E).cell0 rfl, (A1.ext E).cell0 rfl, (A1.ext E).cell0 rfl⟩
            clear hK K'
            try simp only [Act.put, List.setIfInBounds_toArray, List.set_cons_zero, List.set_cons_succ]
            refine wpAnyH_done (by kernel_rfl) ?_ _
            try simp only [Act.put, List.setIfInBounds_toArray, List.set_cons_zero, List.set_cons_succ]
            go_wp2_with fail
            go_meet
            exact ⟨u2x.heap.size, .slice aw P'.bs.length cw, rfl, rfl, Bo, hrow, hgow, E⟩
        · refine if_yes (by rfl) ?_
          try simp only [Act.put, List.setIfInBounds_toArray, List.set_cons_zero, List.set_cons_succ]
          go_simp
          have hgow : w1.heap.size ≤ u1x.heap.size := E.size
          have Bo := Box.new u1x 25 #[.int .i64 0, .slice none 0 0]
          have E := ext_alloc E (.cells #[.int .i64 0, .slice none 0 0] 25)
          obtain ⟨u7x, hu7x⟩ : ∃ u7x, Hid (u7x = u1x.alloc (.cells #[.int .i64 0, .slice none 0 0] 25)) := ⟨_, rfl⟩
          rw [← hu7x.out] at Bo E ⊢
          have hr0 := hr0.alloc (.cells #[.int .i64 0, .slice none 0 0] 25)
          rw [← hu7x.out] at hr0
          refine hK.out _ _ ?_ (fun hHeld => ?_)
          · exact ⟨(A0.ext E).cell0 rfl, (A0.ext E).cell0 rfl, (A1.ext E).cell0 rfl, (A1.ext E).cell0 rfl, (A1.ext E).cell0 rfl⟩
          clear hK K'
          try simp only [Act.put, List.setIfInBounds_toArray, List.set_cons_zero, List.set_cons_succ]
          refine wpAnyH_ready (rs := [3]) (by kernel_rfl) (by simp) ?_
          refine AllReadyH.cons rfl (fun K' hK => ?_) AllReadyH.nil
          refine if_yes (by rfl) ?_
          try simp only [Act.put, List.setIfInBounds_toArray, List.set_cons_zero, List.set_cons_succ]
          go_simp
          refine (laws_toBound b1 _).mono ?_
          rintro e u8x ⟨rfl, hb⟩
          have E := ext_trans E hb
          have hr0 := hr0.ext hb
          have Bo := Bo.ext hb
          clear hb
          go_wp2_with fail
          refine hK.out _ _ ?_ (fun hHeld => ?_)
          · exact ⟨(A0.ext E).cell0 rfl, (A0.ext E).cell0 rfl, (A1.ext E).cell0 rfl, (A1.ext E).cell0 rfl, (A1.ext E).cell0 rfl⟩
          clear hK K'
          try simp only [Act.put, List.setIfInBounds_toArray, List.set_cons_zero, List.set_cons_succ]
          refine wpAnyH_ready (rs := [4]) (by kernel_rfl) (by simp) ?_
          refine AllReadyH.cons rfl (fun K' hK => ?_) AllReadyH.nil
          refine if_yes (by rfl) ?_
          try simp only [Act.put, List.setIfInBounds_toArray, List.set_cons_zero, List.set_cons_succ]
          go_simp
          refine (spec_WithBound (⟨pts0, l0⟩ : Pl) b1 _ _ (hr0.base (Nat.zero_le _)) (by simp; omega)).mono ?_
          rintro e u9x ⟨rw, rfl, hrow, hb⟩
          rw [← hP'.out] at hrow ⊢
          rw [← hb'.out]
          have hrow := hrow.base E.size
          have E := ext_trans E hb
          have Bo := Bo.ext hb
          clear hb
          obtain ⟨aw, cw, rfl, -⟩ := hrow.open
          go_wp2_with fail
          refine hK.out _ _ ?_ (fun hHeld => ?_)
          · exact ⟨(A0.ext E).cell0 rfl, (A0.ext E).cell0 rfl, (A1.ext E).cell0 rfl, (A1.ext E).cell0 rfl, (A1.ext E).cell0 rfl⟩
          clear hK K'
          try simp only [Act.put, List.setIfInBounds_toArray, List.set_cons_zero, List.set_cons_succ]
          refine wpAnyH_take (i := 5) (v := ?_) rfl (by kernel_rfl) (by kernel_rfl) (by kernel_rfl) (fun _ _ _ h => h) (Or.inl ⟨by rfl, fun w' hS' => ?_⟩) (by assumption) ?_
          rotate_left
          · (try dsimp only at hS'); go_simp; (try rw [if_pos (by omega)]); try with_reducible rfl
          try simp only [Act.put, List.getElem_toArray, List.getElem_cons_zero, List.getElem_cons_succ, List.setIfInBounds_toArray, List.set_cons_zero, List.set_cons_succ]
          refine wpAnyH_take (i := 6) (v := ?_) rfl (by kernel_rfl) (by kernel_rfl) (by kernel_rfl) (fun _ _ _ h => h) (Or.inl ⟨by rfl, fun w' hS' => ?_⟩) (by assumption) ?_
          rotate_left
          · (try dsimp only at hS'); go_simp; (try rw [if_pos (by omega)]); try with_reducible rfl
          try simp only [Act.put, List.getElem_toArray, List.getElem_cons_zero, List.getElem_cons_succ, List.setIfInBounds_toArray, List.set_cons_zero, List.set_cons_succ]
          refine wpAnyH_take (i := 7) (v := ?_) rfl (by kernel_rfl) (by kernel_rfl) (by kernel_rfl) (fun _ _ _ h => h) (Or.inl ⟨by rfl, fun w' hS' => ?_⟩) (by assumption) ?_
          rotate_left
          · (try dsimp only at hS'); go_simp; (try rw [if_pos (by omega)]); try with_reducible rfl
          try simp only [Act.put, List.getElem_toArray, List.getElem_cons_zero, List.getElem_cons_succ, List.setIfInBounds_toArray, List.set_cons_zero, List.set_cons_succ]
          obtain ⟨rco, rzo⟩ := (Bo).rules; have rlo := (Bo).lt
          refine wpAnyH_ready (rs := [9]) (by kernel_rfl) (by simp) ?_
          refine AllReadyH.cons rfl (fun K' hK => ?_) AllReadyH.nil
          refine if_yes (by rfl) ?_
          go_simp
          have E := ext_set (ext_set E (p := ⟨u1x.heap.size, 0, none⟩) hgow (.int .i64 P'.pts)) (p := ⟨u1x.heap.size, 1, none⟩) hgow (.slice aw P'.bs.length cw)
          have hrow := own_far hrow (grown_set (i := 1) (grown_set (i := 0) (World.grownBy.refl _ (some (u1x.heap.size))) (.int .i64 P'.pts)) (.slice aw P'.bs.length cw)) (fun k hk e => own_not_box hrow Bo (by rw [hk]; exact e))
          have Bo := (Bo.set 0 (.int .i64 P'.pts)).set 1 (.slice aw P'.bs.length cw)
          refine hK.out _ _ ?_ (fun hHeld => ?_)
          · exact ⟨(A0.ext E).cell0 rfl, (A0.ext E).cell0 rfl, (A1.ext E).cell0 rfl, (A1.ext E).cell0 rfl, (A1.ext E).cell0 rfl⟩
          clear hK K'
          try simp only [Act.put, List.setIfInBounds_toArray, List.set_cons_zero, List.set_cons_succ]
          refine wpAnyH_ready (rs := [10]) (by kernel_rfl) (by simp) ?_
          refine AllReadyH.cons rfl (fun K' hK => ?_) AllReadyH.nil
          refine if_yes (by rfl) ?_
          go_simp
          refine hK.out _ _ ?_ (fun hHeld => ?_)
          · exact ⟨(A0.ext E).cell0 rfl, (A0.ext E).cell0 rfl, (A1.ext E).cell0 rfl, (A1.ext E).cell0 rfl, (A1.ext E).cell0 rfl⟩
          clear hK K'
          try simp only [Act.put, List.setIfInBounds_toArray, List.set_cons_zero, List.set_cons_succ]
          refine wpAnyH_done (by kernel_rfl) ?_ _
          try simp only [Act.put, List.setIfInBounds_toArray, List.set_cons_zero, List.set_cons_succ]
          go_wp2_with fail
          go_meet
          exact ⟨u1x.heap.size, .slice aw P'.bs.length cw, rfl, rfl, Bo, hrow, hgow, E⟩
      · refine if_yes (by rfl) ?_
        try simp only [Act.put, List.setIfInBounds_toArray, List.set_cons_zero, List.set_cons_succ]
        go_simp
        have hgow : w1.heap.size ≤ D.heap.size := E.size
        have Bo := Box.new D 25 #[.int .i64 0, .slice none 0 0]
        have E := ext_alloc E (.cells #[.int .i64 0, .slice none 0 0] 25)
        obtain ⟨u10x, hu10x⟩ : ∃ u10x, Hid (u10x = D.alloc (.cells #[.int .i64 0, .slice none 0 0] 25)) := ⟨_, rfl⟩
        rw [← hu10x.out] at Bo E ⊢
        refine hK.out _ _ ?_ (fun hHeld => ?_)
        · exact ⟨(A0.ext E).cell0 rfl, (A0.ext E).cell0 rfl, (A1.ext E).cell0 rfl, (A1.ext E).cell0 rfl, (A1.ext E).cell0 rfl⟩
        clear hK K'
        try simp only [Act.put, List.setIfInBounds_toArray, List.set_cons_zero, List.set_cons_succ]
        refine wpAnyH_ready (rs := [1]) (by kernel_rfl) (by simp) ?_
        refine AllReadyH.cons rfl (fun K' hK => ?_) AllReadyH.nil
        refine if_yes (by rfl) ?_
        try simp only [Act.put, List.setIfInBounds_toArray, List.set_cons_zero, List.set_cons_succ]
        go_simp
        refine (laws_toPlan pts0 a0 n0 cap0 l0 _ (H0.out.ext (ext_trans E0 E)) (by omega)).mono ?_
        rintro e u11x ⟨r0, rfl, hr0, hb⟩
        have E := ext_trans E hb
        have Bo := Bo.ext hb
        clear hb
        go_wp2_with fail
        refine hK.out _ _ ?_ (fun hHeld => ?_)
        · exact ⟨(A0.ext E).cell0 rfl, (A0.ext E).cell0 rfl, (A1.ext E).cell0 rfl, (A1.ext E).cell0 rfl, (A1.ext E).cell0 rfl⟩
        clear hK K'
        try simp only [Act.put, List.setIfInBounds_toArray, List.set_cons_zero, List.set_cons_succ]
        refine wpAnyH_ready (rs := [3]) (by kernel_rfl) (by simp) ?_
        refine AllReadyH.cons rfl (fun K' hK => ?_) AllReadyH.nil
        refine if_yes (by rfl) ?_
        try simp only [Act.put, List.setIfInBounds_toArray, List.set_cons_zero, List.set_cons_succ]
        go_simp
        refine (laws_toBound b1 _).mono ?_
        rintro e u12x ⟨rfl, hb⟩
        have E := ext_trans E hb
        have hr0 := hr0.ext hb
        have Bo := Bo.ext hb
        clear hb
        go_wp2_with fail
        refine hK.out _ _ ?_ (fun hHeld => ?_)
        · exact ⟨(A0.ext E).cell0 rfl, (A0.ext E).cell0 rfl, (A1.ext E).cell0 rfl, (A1.ext E).cell0 rfl, (A1.ext E).cell0 rfl⟩
        clear hK K'
        try simp only [Act.put, List.setIfInBounds_toArray, List.set_cons_zero, List.set_cons_succ]
        refine wpAnyH_ready (rs := [4]) (by kernel_rfl) (by simp) ?_
        refine AllReadyH.cons rfl (fun K' hK => ?_) AllReadyH.nil
        refine if_yes (by rfl) ?_
        try simp only [Act.put, List.setIfInBounds_toArray, List.set_cons_zero, List.set_cons_succ]
        go_simp
        refine (spec_WithBound (⟨pts0, l0⟩ : Pl) b1 _ _ (hr0.base (Nat.zero_le _)) (by simp; omega)).mono ?_
        rintro e u13x ⟨rw, rfl, hrow, hb⟩
        rw [← hP'.out] at hrow ⊢
        rw [← hb'.out]
        have hrow := hrow.base E.size
        have E := ext_trans E hb
        have Bo := Bo.ext hb
        clear hb
        obtain ⟨aw, cw, rfl, -⟩ := hrow.open
        go_wp2_with fail
        refine hK.out _ _ ?_ (fun hHeld => ?_)
        · exact ⟨(A0.ext E).cell0 rfl, (A0.ext E).cell0 rfl, (A1.ext E).cell0 rfl, (A1.ext E).cell0 rfl, (A1.ext E).cell0 rfl⟩
        clear hK K'
        try simp only [Act.put, List.setIfInBounds_toArray, List.set_cons_zero, List.set_cons_succ]
        refine wpAnyH_take (i := 5) (v := ?_) rfl (by kernel_rfl) (by kernel_rfl) (by kernel_rfl) (fun _ _ _ h => h) (Or.inl ⟨by rfl, fun w' hS' => ?_⟩) (by assumption) ?_
        rotate_left
        · (try dsimp only at hS'); go_simp; (try rw [if_pos (by omega)]); try with_reducible rfl
        try simp only [Act.put, List.getElem_toArray, List.getElem_cons_zero, List.getElem_cons_succ, List.setIfInBounds_toArray, List.set_cons_zero, List.set_cons_succ]
        refine wpAnyH_take (i := 6) (v := ?_) rfl (by kernel_rfl) (by kernel_rfl) (by kernel_rfl) (fun _ _ _ h => h) (Or.inl ⟨by rfl, fun w' hS' => ?_⟩) (by assumption) ?_
        rotate_left
        · (try dsimp only at hS'); go_simp; (try rw [if_pos (by omega)]); try with_reducible rfl
        try simp only [Act.put, List.getElem_toArray, List.getElem_cons_zero, List.getElem_cons_succ, List.setIfInBounds_toArray, List.set_cons_zero, List.set_cons_succ]
        refine wpAnyH_take (i := 7) (v := ?_) rfl (by kernel_rfl) (by kernel_rfl) (by kernel_rfl) (fun _ _ _ h => h) (Or.inl ⟨by rfl, fun w' hS' => ?_⟩) (by assumption) ?_
        rotate_left
        · (try dsimp only at hS'); go_simp; (try rw [if_pos (by omega)]); try with_reducible rfl
        try simp only [Act.put, List.getElem_toArray, List.getElem_cons_zero, List.getElem_cons_succ, List.setIfInBounds_toArray, List.set_cons_zero, List.set_cons_succ]
        obtain ⟨rco, rzo⟩ := (Bo).rules; have rlo := (Bo).lt
        refine wpAnyH_ready (rs := [9]) (by kernel_rfl) (by simp) ?_
        refine AllReadyH.cons rfl (fun K' hK => ?_) AllReadyH.nil
        refine if_yes (by rfl) ?_
        go_simp
        have E := ext_set (ext_set E (p := ⟨D.heap.size, 0, none⟩) hgow (.int .i64 P'.pts)) (p := ⟨D.heap.size, 1, none⟩) hgow (.slice aw P'.bs.length cw)
        have hrow := own_far hrow (grown_set (i := 1) (grown_set (i := 0) (World.grownBy.refl _ (some (D.heap.size))) (.int .i64 P'.pts)) (.slice aw P'.bs.length cw)) (fun k hk e => own_not_box hrow Bo (by rw [hk]; exact e))
        have Bo := (Bo.set 0 (.int .i64 P'.pts)).set 1 (.slice aw P'.bs.length cw)
        refine hK.out _ _ ?_ (fun hHeld => ?_)
        · exact ⟨(A0.ext E).cell0 rfl, (A0.ext E).cell0 rfl, (A1.ext E).cell0 rfl, (A1.ext E).cell0 rfl, (A1.ext E).cell0 rfl⟩
        clear hK K'
        try simp only [Act.put, List.setIfInBounds_toArray, List.set_cons_zero, List.set_cons_succ]
        refine wpAnyH_ready (rs := [10]) (by kernel_rfl) (by simp) ?_
        refine AllReadyH.cons rfl (fun K' hK => ?_) AllReadyH.nil
        refine if_yes (by rfl) ?_
        go_simp
        refine hK.out _ _ ?_ (fun hHeld => ?_)
        · exact ⟨(A0.ext E).cell0 rfl, (A0.ext E).cell0 rfl, (A1.ext E).cell0 rfl, (A1.ext E).cell0 rfl, (A1.ext E).cell0 rfl⟩
        clear hK K'
        try simp only [Act.put, List.setIfInBounds_toArray, List.set_cons_zero, List.set_cons_succ]
        refine wpAnyH_done (by kernel_rfl) ?_ _
        try simp only [Act.put, List.setIfInBounds_toArray, List.set_cons_zero, List.set_cons_succ]
        go_wp2_with fail
        go_meet
        exact ⟨D.heap.size, .slice aw P'.bs.length cw, rfl, rfl, Bo, hrow, hgow, E⟩
    rename World => w2
    obtain ⟨gow, sw, rfl, rfl, Bw, hsw, hgow, hb2⟩ := hcut
    obtain ⟨aw, cw, rfl, -⟩ := hsw.open
    have Bhsw := Lib.hid hsw.lt
    have A0 := A0.ext hb2
    have A1 := A1.ext hb2
    have E := ext_trans E hb2
    have q2 := hb2.size
    obtain ⟨rcA0, rzA0⟩ := (A0).rules; have rlA0 := (A0).lt
    obtain ⟨rcA1, rzA1⟩ := (A1).rules; have rlA1 := (A1).lt
    obtain ⟨rcBw, rzBw⟩ := (Bw).rules; have rlBw := (Bw).lt
    go_wp2_with fail
    refine (laws_toPlan pts0 a0 n0 cap0 l0 _ (H0.out.ext (E)) (by omega)).mono ?_
    rintro e w3 ⟨sx0, rfl, hsx0, hb3⟩
    have Br := hsx0.lt
    try simp only [World.size_alloc] at Br
    have Bhsx0 := Lib.hid Br
    clear Br
    have A0 := A0.ext hb3
    have A1 := A1.ext hb3
    have Bw := Bw.ext hb3
    have hsw := hsw.ext hb3
    have E := ext_trans E hb3
    have q3 := hb3.size
    obtain ⟨ax0, cx0, rfl, -⟩ := hsx0.open
    obtain ⟨rcA0, rzA0⟩ := (A0).rules; have rlA0 := (A0).lt
    obtain ⟨rcA1, rzA1⟩ := (A1).rules; have rlA1 := (A1).lt
    obtain ⟨rcBw, rzBw⟩ := (Bw).rules; have rlBw := (Bw).lt
    go_wp2_with fail
    have X0 := Box.new w3 25 #[.int .i64 pts0, .slice ax0 l0.length cx0]
    have q4 : w3.heap.size < (w3.alloc (.cells #[.int .i64 pts0, .slice ax0 l0.length cx0] 25)).heap.size := by rw [World.size_alloc]; omega
    have A0 := A0.alloc (.cells #[.int .i64 pts0, .slice ax0 l0.length cx0] 25)
    have A1 := A1.alloc (.cells #[.int .i64 pts0, .slice ax0 l0.length cx0] 25)
    have Bw := Bw.alloc (.cells #[.int .i64 pts0, .slice ax0 l0.length cx0] 25)
    have hsw := hsw.alloc (.cells #[.int .i64 pts0, .slice ax0 l0.length cx0] 25)
    have hsx0 := hsx0.alloc (.cells #[.int .i64 pts0, .slice ax0 l0.length cx0] 25)
    have E := ext_alloc E (.cells #[.int .i64 pts0, .slice ax0 l0.length cx0] 25)
    obtain ⟨w4, hw4⟩ : ∃ w4, Hid (w4 = w3.alloc (.cells #[.int .i64 pts0, .slice ax0 l0.length cx0] 25)) := ⟨_, rfl⟩
    rw [← hw4.out] at E q4 X0 A0 A1 Bw hsw hsx0 ⊢
    go_cut [9, 10] (fun v9 v10 wx => OutPlanB w4 P' b' v9 v10 wx)
    case first =>
      have E0 := E
      refine wp_region_held_drew (S := fun w' => w'.cell? ⟨w3.heap.size, 0, none⟩ = some (Value.int .i64 pts0) ∧ w'.cell? ⟨w3.heap.size, 1, none⟩ = some (Value.slice ax0 l0.length cx0) ∧ w'.cell? ⟨w.heap.size + 1, 0, none⟩ = some (Value.int .i64 b1.f) ∧ w'.cell? ⟨w.heap.size + 1, 1, none⟩ = some (Value.int .i64 b1.t) ∧ w'.cell? ⟨w.heap.size + 1, 2, none⟩ = some (Value.int .i64 b1.m)) (by kernel_rfl) ?_ (fun hHeld => ?_)
      · exact ⟨(X0.drew).cell0 rfl, (X0.drew).cell0 rfl, (A1.drew).cell0 rfl, (A1.drew).cell0 rfl, (A1.drew).cell0 rfl⟩
      have E := ext_drew (ext_refl w4)
      obtain ⟨D, hD⟩ : ∃ D, Hid (D = w4.drew) := ⟨_, rfl⟩
      rw [← hD.out] at E hHeld ⊢
      try simp only [Act.put, List.setIfInBounds_toArray, List.set_cons_zero, List.set_cons_succ]
      refine wpAnyH_take (i := 0) (v := ?_) rfl (by kernel_rfl) (by kernel_rfl) (by kernel_rfl) (fun _ _ _ h => h) (Or.inl ⟨by rfl, fun w' hS' => ?_⟩) (by assumption) ?_
      rotate_left
      · (try dsimp only at hS'); go_simp; (try rw [if_pos (by omega)]); try with_reducible rfl
      try simp only [Act.put, List.getElem_toArray, List.getElem_cons_zero, List.getElem_cons_succ, List.setIfInBounds_toArray, List.set_cons_zero, List.set_cons_succ]
      refine wpAnyH_take (i := 1) (v := ?_) rfl (by kernel_rfl) (by kernel_rfl) (by kernel_rfl) (fun _ _ _ h => h) (Or.inl ⟨by rfl, fun w' hS' => ?_⟩) (by assumption) ?_
      rotate_left
      · (try dsimp only at hS'); go_simp; (try rw [if_pos (by omega)]); try with_reducible rfl
      try simp only [Act.put, List.getElem_toArray, List.getElem_cons_zero, List.getElem_cons_succ, List.setIfInBounds_toArray, List.set_cons_zero, List.set_cons_succ]
      refine wpAnyH_ready (rs := [2, 7]) (by kernel_rfl) (by simp) ?_
      refine AllReadyH.cons rfl (fun K' hK => ?_) (AllReadyH.cons rfl (fun K' hK => ?_) AllReadyH.nil)
      · refine if_yes (by rfl) ?_
        try simp only [Act.put, List.setIfInBounds_toArray, List.set_cons_zero, List.set_cons_succ]
        go_simp
        refine (laws_toBound b1 _).mono ?_
        rintro e u1x ⟨rfl, hb⟩
        have E := ext_trans E hb
        clear hb
        go_wp2_with fail
        refine hK.out _ _ ?_ (fun hHeld => ?_)
        · exact ⟨(X0.ext E).cell0 rfl, (X0.ext E).cell0 rfl, (A1.ext E).cell0 rfl, (A1.ext E).cell0 rfl, (A1.ext E).cell0 rfl⟩
        clear hK K'
        try simp only [Act.put, List.setIfInBounds_toArray, List.set_cons_zero, List.set_cons_succ]
        refine wpAnyH_ready (rs := [3, 7]) (by kernel_rfl) (by simp) ?_
        refine AllReadyH.cons rfl (fun K' hK => ?_) (AllReadyH.cons rfl (fun K' hK => ?_) AllReadyH.nil)
        · refine if_yes (by rfl) ?_
          try simp only [Act.put, List.setIfInBounds_toArray, List.set_cons_zero, List.set_cons_succ]
          go_simp
          refine (impl_WithBound (⟨pts0, l0⟩ : Pl) b1 _ _ ((hsx0.ext E).base (Nat.zero_le _)) (by simp; omega)).mono ?_
          rintro e u2x ⟨rw, rfl, hrow, hb⟩
          rw [← hP'.out] at hrow ⊢
          rw [← hb'.out]
          have hrow := hrow.base E.size
          have E := ext_trans E hb
          clear hb
          obtain ⟨aw, cw, rfl, -⟩ := hrow.open
          go_wp2_with fail
          refine hK.out _ _ ?_ (fun hHeld => ?_)
          · exact ⟨(X0.ext E).cell0 rfl, (X0.ext E).cell0 rfl, (A1.ext E).cell0 rfl, (A1.ext E).cell0 rfl, (A1.ext E).cell0 rfl⟩
          clear hK K'
          try simp only [Act.put, List.setIfInBounds_toArray, List.set_cons_zero, List.set_cons_succ]
          refine wpAnyH_take (i := 4) (v := ?_) rfl (by kernel_rfl) (by kernel_rfl) (by kernel_rfl) (fun _ _ _ h => h) (Or.inl ⟨by rfl, fun w' hS' => ?_⟩) (by assumption) ?_
          rotate_left
          · (try dsimp only at hS'); go_simp; (try rw [if_pos (by omega)]); try with_reducible rfl
          try simp only [Act.put, List.getElem_toArray, List.getElem_cons_zero, List.getElem_cons_succ, List.setIfInBounds_toArray, List.set_cons_zero, List.set_cons_succ]
          refine wpAnyH_take (i := 5) (v := ?_) rfl (by kernel_rfl) (by kernel_rfl) (by kernel_rfl) (fun _ _ _ h => h) (Or.inl ⟨by rfl, fun w' hS' => ?_⟩) (by assumption) ?_
          rotate_left
          · (try dsimp only at hS'); go_simp; (try rw [if_pos (by omega)]); try with_reducible rfl
          try simp only [Act.put, List.getElem_toArray, List.getElem_cons_zero, List.getElem_cons_succ, List.setIfInBounds_toArray, List.set_cons_zero, List.set_cons_succ]
          refine wpAnyH_take (i := 6) (v := ?_) rfl (by kernel_rfl) (by kernel_rfl) (by kernel_rfl) (fun _ _ _ h => h) (Or.inl ⟨by rfl, fun w' hS' => ?_⟩) (by assumption) ?_
          rotate_left
          · (try dsimp only at hS'); go_simp; (try rw [if_pos (by omega)]); try with_reducible rfl
          try simp only [Act.put, List.getElem_toArray, List.getElem_cons_zero, List.getElem_cons_succ, List.setIfInBounds_toArray, List.set_cons_zero, List.set_cons_succ]
          refine wpAnyH_ready (rs := [7]) (by kernel_rfl) (by simp) ?_
          refine AllReadyH.cons rfl (fun K' hK => ?_) AllReadyH.nil
          refine if_yes (by rfl) ?_
          try simp only [Act.put, List.setIfInBounds_toArray, List.set_cons_zero, List.set_cons_succ]
          go_simp
          have hgow : w4.heap.size ≤ u2x.heap.size := E.size
          have Bo := Box.new u2x 25 #[.int .i64 0, .slice none 0 0]
          have E := ext_alloc E (.cells #[.int .i64 0, .slice none 0 0] 25)
          obtain ⟨u3x, hu3x⟩ : ∃ u3x, Hid (u3x = u2x.alloc (.cells #[.int .i64 0, .slice none 0 0] 25)) := ⟨_, rfl⟩
          rw [← hu3x.out] at Bo E ⊢
          have hrow := hrow.alloc (.cells #[.int .i64 0, .slice none 0 0] 25)
          rw [← hu3x.out] at hrow
          refine hK.out _ _ ?_ (fun hHeld => ?_)
          · exact ⟨(X0.ext E).cell0 rfl, (X0.ext E).cell0 rfl, (A1.ext E).cell0 rfl, (A1.ext E).cell0 rfl, (A1.ext E).cell0 rfl⟩
          clear hK K'
          try simp only [Act.put, List.setIfInBounds_toArray, List.set_cons_zero, List.set_cons_succ]
          obtain ⟨rco, rzo⟩ := (Bo).rules; have rlo := (Bo).lt
          refine wpAnyH_ready (rs := [8]) (by kernel_rfl) (by simp) ?_
          refine AllReadyH.cons rfl (fun K' hK => ?_) AllReadyH.nil
          refine if_yes (by rfl) ?_
          go_simp
          have E := ext_set (ext_set E (p := ⟨u2x.heap.size, 0, none⟩) hgow (.int .i64 P'.pts)) (p := ⟨u2x.heap.size, 1, none⟩) hgow (.slice aw P'.bs.length cw)
          have hrow := own_far hrow (grown_set (i := 1) (grown_set (i := 0) (World.grownBy.refl _ (some (u2x.heap.size))) (.int .i64 P'.pts)) (.slice aw P'.bs.length cw)) (fun k hk e => own_not_box hrow Bo (by rw [hk]; exact e))
          have Bo := (Bo.set 0 (.int .i64 P'.pts)).set 1 (.slice aw P'.bs.length cw)
          refine hK.out _ _ ?_ (fun hHeld => ?_)
          · exact ⟨(X0.ext E).cell0 rfl, (X0.ext E).cell0 rfl, (A1.ext E).cell0 rfl, (A1.ext E).cell0 rfl, (A1.ext E).cell0 rfl⟩
          clear hK K'
          try simp only [Act.put, List.setIfInBounds_toArray, List.set_cons_zero, List.set_cons_succ]
          refine wpAnyH_ready (rs := [9]) (by kernel_rfl) (by simp) ?_
          refine AllReadyH.cons rfl (fun K' hK => ?_) AllReadyH.nil
          refine if_yes (by rfl) ?_
          go_simp
          refine hK.out _ _ ?_ (fun hHeld => ?_)
          · exact ⟨(X0.ext E).cell0 rfl, (X0.ext E).cell0 rfl, (A1.ext E).cell0 rfl, (A1.ext E).cell0 rfl, (A1.ext E).cell0 rfl⟩
          clear hK K'
          try simp only [Act.put, List.setIfInBounds_toArray, List.set_cons_zero, List.set_cons_succ]
          refine wpAnyH_done (by kernel_rfl) ?_ _
          try simp only [Act.put, List.setIfInBounds_toArray, List.set_cons_zero, List.set_cons_succ]
          go_wp2_with fail
          go_meet
          exact ⟨u2x.heap.size, .slice aw P'.bs.length cw, rfl, rfl, Bo, hrow, hgow, E⟩
        · refine if_yes (by rfl) ?_
          try simp only [Act.put, List.setIfInBounds_toArray, List.set_cons_zero, List.set_cons_succ]
          go_simp
          have hgow : w4.heap.size ≤ u1x.heap.size := E.size
          have Bo := Box.new u1x 25 #[.int .i64 0, .slice none 0 0]
          have E := ext_alloc E (.cells #[.int .i64 0, .slice none 0 0] 25)
          obtain ⟨u4x, hu4x⟩ : ∃ u4x, Hid (u4x = u1x.alloc (.cells #[.int .i64 0, .slice none 0 0] 25)) := ⟨_, rfl⟩
          rw [← hu4x.out] at Bo E ⊢
          refine hK.out _ _ ?_ (fun hHeld => ?_)
          · exact ⟨(X0.ext E).cell0 rfl, (X0.ext E).cell0 rfl, (A1.ext E).cell0 rfl, (A1.ext E).cell0 rfl, (A1.ext E).cell0 rfl⟩
          clear hK K'
          try simp only [Act.put, List.setIfInBounds_toArray, List.set_cons_zero, List.set_cons_succ]
          refine wpAnyH_ready (rs := [3]) (by kernel_rfl) (by simp) ?_
          refine AllReadyH.cons rfl (fun K' hK => ?_) AllReadyH.nil
          refine if_yes (by rfl) ?_
          try simp only [Act.put, List.setIfInBounds_toArray, List.set_cons_zero, List.set_cons_succ]
          go_simp
          refine (impl_WithBound (⟨pts0, l0⟩ : Pl) b1 _ _ ((hsx0.ext E).base (Nat.zero_le _)) (by simp; omega)).mono ?_
          rintro e u5x ⟨rw, rfl, hrow, hb⟩
          rw [← hP'.out] at hrow ⊢
          rw [← hb'.out]
          have hrow := hrow.base E.size
          have E := ext_trans E hb
          have Bo := Bo.ext hb
          clear hb
          obtain ⟨aw, cw, rfl, -⟩ := hrow.open
          go_wp2_with fail
          refine hK.out _ _ ?_ (fun hHeld => ?_)
          · exact ⟨(X0.ext E).cell0 rfl, (X0.ext E).cell0 rfl, (A1.ext E).cell0 rfl, (A1.ext E).cell0 rfl, (A1.ext E).cell0 rfl⟩
          clear hK K'
          try simp only [Act.put, List.setIfInBounds_toArray, List.set_cons_zero, List.set_cons_succ]
          refine wpAnyH_take (i := 4) (v := ?_) rfl (by kernel_rfl) (by kernel_rfl) (by kernel_rfl) (fun _ _ _ h => h) (Or.inl ⟨by rfl, fun w' hS' => ?_⟩) (by assumption) ?_
          rotate_left
          · (try dsimp only at hS'); go_simp; (try rw [if_pos (by omega)]); try with_reducible rfl
          try simp only [Act.put, List.getElem_toArray, List.getElem_cons_zero, List.getElem_cons_succ, List.setIfInBounds_toArray, List.set_cons_zero, List.set_cons_succ]
          refine wpAnyH_take (i := 5) (v := ?_) rfl (by kernel_rfl) (by kernel_rfl) (by kernel_rfl) (fun _ _ _ h => h) (Or.inl ⟨by rfl, fun w' hS' => ?_⟩) (by assumption) ?_
          rotate_left
          · (try dsimp only at hS'); go_simp; (try rw [if_pos (by omega)]); try with_reducible rfl
          try simp only [Act.put, List.getElem_toArray, List.getElem_cons_zero, List.getElem_cons_succ, List.setIfInBounds_toArray, List.set_cons_zero, List.set_cons_succ]
          refine wpAnyH_take (i := 6) (v := ?_) rfl (by kernel_rfl) (by kernel_rfl) (by kernel_rfl) (fun _ _ _ h => h) (Or.inl ⟨by rfl, fun w' hS' => ?_⟩) (by assumption) ?_
          rotate_left
          · (try dsimp only at hS'); go_simp; (try rw [if_pos (by omega)]); try with_reducible rfl
          try simp only [Act.put, List.getElem_toArray, List.getElem_cons_zero, List.getElem_cons_succ, List.setIfInBounds_toArray, List.set_cons_zero, List.set_cons_succ]
          obtain ⟨rco, rzo⟩ := (Bo).rules; have rlo := (Bo).lt
          refine wpAnyH_ready (rs := [8]) (by kernel_rfl) (by simp) ?_
          refine AllReadyH.cons rfl (fun K' hK => ?_) AllReadyH.nil
          refine if_yes (by rfl) ?_
          go_simp
          have E := ext_set (ext_set E (p := ⟨u1x.heap.size, 0, none⟩) hgow (.int .i64 P'.pts)) (p := ⟨u1x.heap.size, 1, none⟩) hgow (.slice aw P'.bs.length cw)
          have hrow := own_far hrow (grown_set (i := 1) (grown_set (i := 0) (World.grownBy.refl _ (some (u1x.heap.size))) (.int .i64 P'.pts)) (.slice aw P'.bs.length cw)) (fun k hk e => own_not_box hrow Bo (by rw [hk]; exact e))
          have Bo := (Bo.set 0 (.int .i64 P'.pts)).set 1 (.slice aw P'.bs.length cw)
          refine hK.out _ _ ?_ (fun hHeld => ?_)
          · exact ⟨(X0.ext E).cell0 rfl, (X0.ext E).cell0 rfl, (A1.ext E).cell0 rfl, (A1.ext E).cell0 rfl, (A1.ext E).cell0 rfl⟩
          clear hK K'
          try simp only [Act.put, List.setIfInBounds_toArray, List.set_cons_zero, List.set_cons_succ]
          refine wpAnyH_ready (rs := [9]) (by kernel_rfl) (by simp) ?_
          refine AllReadyH.cons rfl (fun K' hK => ?_) AllReadyH.nil
          refine if_yes (by rfl) ?_
          go_simp
          refine hK.out _ _ ?_ (fun hHeld => ?_)
          · exact ⟨(X0.ext E).cell0 rfl, (X0.ext E).cell0 rfl, (A1.ext E).cell0 rfl, (A1.ext E).cell0 rfl, (A1.ext E).cell0 rfl⟩
          clear hK K'
          try simp only [Act.put, List.setIfInBounds_toArray, List.set_cons_zero, List.set_cons_succ]
          refine wpAnyH_done (by kernel_rfl) ?_ _
          try simp only [Act.put, List.setIfInBounds_toArray, List.set_cons_zero, List.set_cons_succ]
          go_wp2_with fail
          go_meet
          exact ⟨u1x.heap.size, .slice aw P'.bs.length cw, rfl, rfl, Bo, hrow, hgow, E⟩
      · refine if_yes (by rfl) ?_
        try simp only [Act.put, List.setIfInBounds_toArray, List.set_cons_zero, List.set_cons_succ]
        go_simp
        have hgow : w4.heap.size ≤ D.heap.size := E.size
        have Bo := Box.new D 25 #[.int .i64 0, .slice none 0 0]
        have E := ext_alloc E (.cells #[.int .i64 0, .slice none 0 0] 25)
        obtain ⟨u6x, hu6x⟩ : ∃ u6x, Hid (u6x = D.alloc (.cells #[.int .i64 0, .slice none 0 0] 25)) := ⟨_, rfl⟩
        rw [← hu6x.out] at Bo E ⊢
        refine hK.out _ _ ?_ (fun hHeld => ?_)
        · exact ⟨(X0.ext E).cell0 rfl, (X0.ext E).cell0 rfl, (A1.ext E).cell0 rfl, (A1.ext E).cell0 rfl, (A1.ext E).cell0 rfl⟩
        clear hK K'
        try simp only [Act.put, List.setIfInBounds_toArray, List.set_cons_zero, List.set_cons_succ]
        refine wpAnyH_ready (rs := [2]) (by kernel_rfl) (by simp) ?_
        refine AllReadyH.cons rfl (fun K' hK => ?_) AllReadyH.nil
        refine if_yes (by rfl) ?_
        try simp only [Act.put, List.setIfInBounds_toArray, List.set_cons_zero, List.set_cons_succ]
        go_simp
        refine (laws_toBound b1 _).mono ?_
        rintro e u7x ⟨rfl, hb⟩
        have E := ext_trans E hb
        have Bo := Bo.ext hb
        clear hb
        go_wp2_with fail
        refine hK.out _ _ ?_ (fun hHeld => ?_)
        · exact ⟨(X0.ext E).cell0 rfl, (X0.ext E).cell0 rfl, (A1.ext E).cell0 rfl, (A1.ext E).cell0 rfl, (A1.ext E).cell0 rfl⟩
        clear hK K'
        try simp only [Act.put, List.setIfInBounds_toArray, List.set_cons_zero, List.set_cons_succ]
        refine wpAnyH_ready (rs := [3]) (by kernel_rfl) (by simp) ?_
        refine AllReadyH.cons rfl (fun K' hK => ?_) AllReadyH.nil
        refine if_yes (by rfl) ?_
        try simp only [Act.put, List.setIfInBounds_toArray, List.set_cons_zero, List.set_cons_succ]
        go_simp
        refine (impl_WithBound (⟨pts0, l0⟩ : Pl) b1 _ _ ((hsx0.ext E).base (Nat.zero_le _)) (by simp; omega)).mono ?_
        rintro e u8x ⟨rw, rfl, hrow, hb⟩
        rw [← hP'.out] at hrow ⊢
        rw [← hb'.out]
        have hrow := hrow.base E.size
        have E := ext_trans E hb
        have Bo := Bo.ext hb
        clear hb
        obtain ⟨aw, cw, rfl, -⟩ := hrow.open
        go_wp2_with fail
        refine hK.out _ _ ?_ (fun hHeld => ?_)
        · exact ⟨(X0.ext E).cell0 rfl, (X0.ext E).cell0 rfl, (A1.ext E).cell0 rfl, (A1.ext E).cell0 rfl, (A1.ext E).cell0 rfl⟩
        clear hK K'
        try simp only [Act.put, List.setIfInBounds_toArray, List.set_cons_zero, List.set_cons_succ]
        refine wpAnyH_take (i := 4) (v := ?_) rfl (by kernel_rfl) (by kernel_rfl) (by kernel_rfl) (fun _ _ _ h => h) (Or.inl ⟨by rfl, fun w' hS' => ?_⟩) (by assumption) ?_
        rotate_left
        · (try dsimp only at hS'); go_simp; (try rw [if_pos (by omega)]); try with_reducible rfl
        try simp only [Act.put, List.getElem_toArray, List.getElem_cons_zero, List.getElem_cons_succ, List.setIfInBounds_toArray, List.set_cons_zero, List.set_cons_succ]
        refine wpAnyH_take (i := 5) (v := ?_) rfl (by kernel_rfl) (by kernel_rfl) (by kernel_rfl) (fun _ _ _ h => h) (Or.inl ⟨by rfl, fun w' hS' => ?_⟩) (by assumption) ?_
        rotate_left
        · (try dsimp only at hS'); go_simp; (try rw [if_pos (by omega)]); try with_reducible rfl
        try simp only [Act.put, List.getElem_toArray, List.getElem_cons_zero, List.getElem_cons_succ, List.setIfInBounds_toArray, List.set_cons_zero, List.set_cons_succ]
        refine wpAnyH_take (i := 6) (v := ?_) rfl (by kernel_rfl) (by kernel_rfl) (by kernel_rfl) (fun _ _ _ h => h) (Or.inl ⟨by rfl, fun w' hS' => ?_⟩) (by assumption) ?_
        rotate_left
        · (try dsimp only at hS'); go_simp; (try rw [if_pos (by omega)]); try with_reducible rfl
        try simp only [Act.put, List.getElem_toArray, List.getElem_cons_zero, List.getElem_cons_succ, List.setIfInBounds_toArray, List.set_cons_zero, List.set_cons_succ]
        obtain ⟨rco, rzo⟩ := (Bo).rules; have rlo := (Bo).lt
        refine wpAnyH_ready (rs := [8]) (by kernel_rfl) (by simp) ?_
        refine AllReadyH.cons rfl (fun K' hK => ?_) AllReadyH.nil
        refine if_yes (by rfl) ?_
        go_simp
        have E := ext_set (ext_set E (p := ⟨D.heap.size, 0, none⟩) hgow (.int .i64 P'.pts)) (p := ⟨D.heap.size, 1, none⟩) hgow (.slice aw P'.bs.length cw)
        have hrow := own_far hrow (grown_set (i := 1) (grown_set (i := 0) (World.grownBy.refl _ (some (D.heap.size))) (.int .i64 P'.pts)) (.slice aw P'.bs.length cw)) (fun k hk e => own_not_box hrow Bo (by rw [hk]; exact e))
        have Bo := (Bo.set 0 (.int .i64 P'.pts)).set 1 (.slice aw P'.bs.length cw)
        refine hK.out _ _ ?_ (fun hHeld => ?_)
        · exact ⟨(X0.ext E).cell0 rfl, (X0.ext E).cell0 rfl, (A1.ext E).cell0 rfl, (A1.ext E).cell0 rfl, (A1.ext E).cell0 rfl⟩
        clear hK K'
        try simp only [Act.put, List.setIfInBounds_toArray, List.set_cons_zero, List.set_cons_succ]
        refine wpAnyH_ready (rs := [9]) (by kernel_rfl) (by simp) ?_
        refine AllReadyH.cons rfl (fun K' hK => ?_) AllReadyH.nil
        refine if_yes (by rfl) ?_
        go_simp
        refine hK.out _ _ ?_ (fun hHeld => ?_)
        · exact ⟨(X0.ext E).cell0 rfl, (X0.ext E).cell0 rfl, (A1.ext E).cell0 rfl, (A1.ext E).cell0 rfl, (A1.ext E).cell0 rfl⟩
        clear hK K'
        try simp only [Act.put, List.setIfInBounds_toArray, List.set_cons_zero, List.set_cons_succ]
        refine wpAnyH_done (by kernel_rfl) ?_ _
        try simp only [Act.put, List.setIfInBounds_toArray, List.set_cons_zero, List.set_cons_succ]
        go_wp2_with fail
        go_meet
        exact ⟨D.heap.size, .slice aw P'.bs.length cw, rfl, rfl, Bo, hrow, hgow, E⟩
    rename World => w5
    obtain ⟨gog, sg, rfl, rfl, Bg, hsg, hgog, hb5⟩ := hcut
    obtain ⟨ag, cg, rfl, -⟩ := hsg.open
    have Bhsg := Lib.hid hsg.lt
    have A0 := A0.ext hb5
    have A1 := A1.ext hb5
    have Bw := Bw.ext hb5
    have X0 := X0.ext hb5
    have hsw := hsw.ext hb5
    have hsx0 := hsx0.ext hb5
    have E := ext_trans E hb5
    have q5 := hb5.size
    obtain ⟨rcA0, rzA0⟩ := (A0).rules; have rlA0 := (A0).lt
    obtain ⟨rcA1, rzA1⟩ := (A1).rules; have rlA1 := (A1).lt
    obtain ⟨rcBw, rzBw⟩ := (Bw).rules; have rlBw := (Bw).lt
    obtain ⟨rcX0, rzX0⟩ := (X0).rules; have rlX0 := (X0).lt
    obtain ⟨rcBg, rzBg⟩ := (Bg).rules; have rlBg := (Bg).lt
    go_wp2_with fail
    refine (laws_eqPlan P' P' _ _ _ ((hsg).base (Nat.zero_le _)) ((hsw).base (Nat.zero_le _))).mono ?_
    rintro e w6 ⟨rfl, hb6⟩
    have A0 := A0.ext hb6
    have A1 := A1.ext hb6
    have Bw := Bw.ext hb6
    have X0 := X0.ext hb6
    have Bg := Bg.ext hb6
    have hsw := hsw.ext hb6
    have hsx0 := hsx0.ext hb6
    have hsg := hsg.ext hb6
    have E := ext_trans E hb6
    have q6 := hb6.size
    rw [decide_eq_true rfl]
    obtain ⟨rcA0, rzA0⟩ := (A0).rules; have rlA0 := (A0).lt
    obtain ⟨rcA1, rzA1⟩ := (A1).rules; have rlA1 := (A1).lt
    obtain ⟨rcBw, rzBw⟩ := (Bw).rules; have rlBw := (Bw).lt
    obtain ⟨rcX0, rzX0⟩ := (X0).rules; have rlX0 := (X0).lt
    obtain ⟨rcBg, rzBg⟩ := (Bg).rules; have rlBg := (Bg).lt
    go_wp2_with fail
    go_region_held3 (fun w' => w'.cell? ⟨w.heap.size, 0, none⟩ = some (Value.int .i64 pts0) ∧ w'.cell? ⟨w.heap.size, 1, none⟩ = some (Value.slice a0 n0 cap0) ∧ w'.cell? ⟨w3.heap.size, 0, none⟩ = some (Value.int .i64 pts0) ∧ w'.cell? ⟨w3.heap.size, 1, none⟩ = some (Value.slice ax0 l0.length cx0))
      (first | exact ⟨A0.cell0 rfl, A0.cell0 rfl, X0.cell0 rfl, X0.cell0 rfl⟩ | exact ⟨A0a.cell0 rfl, A0a.cell0 rfl, X0a.cell0 rfl, X0a.cell0 rfl⟩ | exact ⟨A0b.cell0 rfl, A0b.cell0 rfl, X0b.cell0 rfl, X0b.cell0 rfl⟩)
      (first | (go_at_call 33
                refine (laws_toPlan pts0 a0 n0 cap0 l0 _ (H0.out.ext (ext_drew E)) (by omega)).mono ?_
                rintro e wa7 ⟨sy, rfl, hsy, hba⟩
                have A0a := A0.drew.ext hba
                have X0a := X0.drew.ext hba)
             | (go_at_call 34
                refine (laws_eqPlan (⟨pts0, l0⟩ : Pl) (⟨pts0, l0⟩ : Pl) _ _ _ ((hsx0.drew.ext hba).base (Nat.zero_le _)) (hsy.base (Nat.zero_le _))).mono ?_
                rintro e w7 ⟨rfl, hbb⟩
                have A0b := A0a.ext hbb
                have X0b := X0a.ext hbb
                have hb7 := ext_trans (ext_trans (ext_drew (ext_refl w6)) hba) hbb))
    clear A0a X0a A0b X0b hba hbb hsy
    have A0 := A0.ext hb7
    have A1 := A1.ext hb7
    have Bw := Bw.ext hb7
    have X0 := X0.ext hb7
    have Bg := Bg.ext hb7
    have hsw := hsw.ext hb7
    have hsx0 := hsx0.ext hb7
    have hsg := hsg.ext hb7
    have E := ext_trans E hb7
    have q7 := hb7.size
    obtain ⟨rcA0, rzA0⟩ := (A0).rules; have rlA0 := (A0).lt
    obtain ⟨rcA1, rzA1⟩ := (A1).rules; have rlA1 := (A1).lt
    obtain ⟨rcBw, rzBw⟩ := (Bw).rules; have rlBw := (Bw).lt
    obtain ⟨rcX0, rzX0⟩ := (X0).rules; have rlX0 := (X0).lt
    obtain ⟨rcBg, rzBg⟩ := (Bg).rules; have rlBg := (Bg).lt
    go_wp2_with fail
    refine (laws_markPlan pts0 _ l0 _ (1) _ (hsx0) (by omega) (by omega) (by have := HL0.out; omega)).mono ?_
    rintro e w8 ⟨rfl, hsx0, hg8⟩
    have A0 := A0.grown hg8 (fun e => by have := Bhsx0.out _ e.symm; omega)
    have A1 := A1.grown hg8 (fun e => by have := Bhsx0.out _ e.symm; omega)
    have Bw := Bw.grown hg8 (fun e => by have := Bhsx0.out _ e.symm; omega)
    have X0 := X0.grown hg8 (fun e => by have := Bhsx0.out _ e.symm; omega)
    have Bg := Bg.grown hg8 (fun e => by have := Bhsx0.out _ e.symm; omega)
    have hsw := hsw.far hg8 (fun k hk e => by have := Bhsw.out _ hk; have := Bhsx0.out _ e; omega)
    have hsg := hsg.far hg8 (fun k hk e => by have := Bhsg.out _ hk; have := Bhsx0.out _ e; omega)
    have E := ext_grown E hg8 (fun k hk => by have := Bhsx0.out _ hk; omega)
    have q8 := hg8.size
    clear hg8
    obtain ⟨rcA0, rzA0⟩ := (A0).rules; have rlA0 := (A0).lt
    obtain ⟨rcA1, rzA1⟩ := (A1).rules; have rlA1 := (A1).lt
    obtain ⟨rcBw, rzBw⟩ := (Bw).rules; have rlBw := (Bw).lt
    obtain ⟨rcX0, rzX0⟩ := (X0).rules; have rlX0 := (X0).lt
    obtain ⟨rcBg, rzBg⟩ := (Bg).rules; have rlBg := (Bg).lt
    go_wp2_with fail
    refine (laws_eqPlan P' P' _ _ _ ((hsg).base (Nat.zero_le _)) ((hsw).base (Nat.zero_le _))).mono ?_
    rintro e w9 ⟨rfl, hb9⟩
    have A0 := A0.ext hb9
    have A1 := A1.ext hb9
    have Bw := Bw.ext hb9
    have X0 := X0.ext hb9
    have Bg := Bg.ext hb9
    have hsw := hsw.ext hb9
    have hsx0 := hsx0.ext hb9
    have hsg := hsg.ext hb9
    have E := ext_trans E hb9
    have q9 := hb9.size
    rw [decide_eq_true rfl]
    obtain ⟨rcA0, rzA0⟩ := (A0).rules; have rlA0 := (A0).lt
    obtain ⟨rcA1, rzA1⟩ := (A1).rules; have rlA1 := (A1).lt
    obtain ⟨rcBw, rzBw⟩ := (Bw).rules; have rlBw := (Bw).lt
    obtain ⟨rcX0, rzX0⟩ := (X0).rules; have rlX0 := (X0).lt
    obtain ⟨rcBg, rzBg⟩ := (Bg).rules; have rlBg := (Bg).lt
    go_wp2_with fail
    have nzBg := own_not_box hsg Bg
    refine (laws_markPlan P'.pts _ P'.bs _ 1 _ hsg (by omega) (by omega) (by omega)).mono ?_
    rintro e w10 ⟨rfl, hsg, hg10⟩
    have A0 := A0.grown hg10 (fun e => by have := Bhsg.out _ e.symm; omega)
    have A1 := A1.grown hg10 (fun e => by have := Bhsg.out _ e.symm; omega)
    have Bw := Bw.grown hg10 (fun e => by have := Bhsg.out _ e.symm; omega)
    have X0 := X0.grown hg10 (fun e => by have := Bhsg.out _ e.symm; omega)
    have Bg := Bg.grown hg10 nzBg
    have hsw := hsw.far hg10 (fun k hk e => by have := Bhsw.out _ hk; have := Bhsg.out _ e; omega)
    have hsx0 := hsx0.far hg10 (fun k hk e => by have := Bhsx0.out _ hk; have := Bhsg.out _ e; omega)
    have E := ext_grown E hg10 (fun k hk => by have := Bhsg.out _ hk; omega)
    have q10 := hg10.size
    clear hg10
    obtain ⟨rcA0, rzA0⟩ := (A0).rules; have rlA0 := (A0).lt
    obtain ⟨rcA1, rzA1⟩ := (A1).rules; have rlA1 := (A1).lt
    obtain ⟨rcBw, rzBw⟩ := (Bw).rules; have rlBw := (Bw).lt
    obtain ⟨rcX0, rzX0⟩ := (X0).rules; have rlX0 := (X0).lt
    obtain ⟨rcBg, rzBg⟩ := (Bg).rules; have rlBg := (Bg).lt
    go_wp2_with fail
    refine (laws_heldPlan P'.pts _ P'.bs.length 1 _ (hsg.base (Nat.zero_le _)) (by omega) (by omega) (by omega)).mono ?_
    rintro e w11 ⟨rfl, hb11⟩
    have A0 := A0.ext hb11
    have A1 := A1.ext hb11
    have Bw := Bw.ext hb11
    have X0 := X0.ext hb11
    have Bg := Bg.ext hb11
    have hsw := hsw.ext hb11
    have hsx0 := hsx0.ext hb11
    have hsg := hsg.ext hb11
    have E := ext_trans E hb11
    have q11 := hb11.size
    obtain ⟨rcA0, rzA0⟩ := (A0).rules; have rlA0 := (A0).lt
    obtain ⟨rcA1, rzA1⟩ := (A1).rules; have rlA1 := (A1).lt
    obtain ⟨rcBw, rzBw⟩ := (Bw).rules; have rlBw := (Bw).lt
    obtain ⟨rcX0, rzX0⟩ := (X0).rules; have rlX0 := (X0).lt
    obtain ⟨rcBg, rzBg⟩ := (Bg).rules; have rlBg := (Bg).lt
    go_wp2_with fail
    go_cut [14, 15] (fun v14 v15 wx => OutPlanB w11 P' b' v14 v15 wx)
    case first =>
      have E0 := E
      refine wp_region_held_drew (S := fun w' => w'.cell? ⟨w.heap.size, 0, none⟩ = some (Value.int .i64 pts0) ∧ w'.cell? ⟨w.heap.size, 1, none⟩ = some (Value.slice a0 n0 cap0) ∧ w'.cell? ⟨w.heap.size + 1, 0, none⟩ = some (Value.int .i64 b1.f) ∧ w'.cell? ⟨w.heap.size + 1, 1, none⟩ = some (Value.int .i64 b1.t) ∧ w'.cell? ⟨w.heap.size + 1, 2, none⟩ = some (Value.int .i64 b1.m)) (by kernel_rfl) ?_ (fun hHeld => ?_)
      · exact ⟨(A0.drew).cell0 rfl, (A0.drew).cell0 rfl, (A1.drew).cell0 rfl, (A1.drew).cell0 rfl, (A1.drew).cell0 rfl⟩
      have E := ext_drew (ext_refl w11)
      obtain ⟨D, hD⟩ : ∃ D, Hid (D = w11.drew) := ⟨_, rfl⟩
      rw [← hD.out] at E hHeld ⊢
      try simp only [Act.put, List.setIfInBounds_toArray, List.set_cons_zero, List.set_cons_succ]
      refine wpAnyH_take (i := 0) (v := ?_) rfl (by kernel_rfl) (by kernel_rfl) (by kernel_rfl) (fun _ _ _ h => h) (Or.inl ⟨by rfl, fun w' hS' => ?_⟩) (by assumption) ?_
      rotate_left
      · (try dsimp only at hS'); go_simp; (try rw [if_pos (by omega)]); try with_reducible rfl
      try simp only [Act.put, List.getElem_toArray, List.getElem_cons_zero, List.getElem_cons_succ, List.setIfInBounds_toArray, List.set_cons_zero, List.set_cons_succ]
      refine wpAnyH_take (i := 2) (v := ?_) rfl (by kernel_rfl) (by kernel_rfl) (by kernel_rfl) (fun _ _ _ h => h) (Or.inl ⟨by rfl, fun w' hS' => ?_⟩) (by assumption) ?_
      rotate_left
      · (try dsimp only at hS'); go_simp; (try rw [if_pos (by omega)]); try with_reducible rfl
      try simp only [Act.put, List.getElem_toArray, List.getElem_cons_zero, List.getElem_cons_succ, List.setIfInBounds_toArray, List.set_cons_zero, List.set_cons_succ]
      refine wpAnyH_ready (rs := [1, 8]) (by kernel_rfl) (by simp) ?_
      refine AllReadyH.cons rfl (fun K' hK => ?_) (AllReadyH.cons rfl (fun K' hK => ?_) AllReadyH.nil)
      · refine if_yes (by rfl) ?_
        try simp only [Act.put, List.setIfInBounds_toArray, List.set_cons_zero, List.set_cons_succ]
        go_simp
        refine (laws_toPlan pts0 a0 n0 cap0 l0 _ (H0.out.ext (ext_trans E0 E)) (by omega)).mono ?_
        rintro e u1x ⟨r0, rfl, hr0, hb⟩
        have E := ext_trans E hb
        clear hb
        go_wp2_with fail
        refine hK.out _ _ ?_ (fun hHeld => ?_)
        · exact ⟨(A0.ext E).cell0 rfl, (A0.ext E).cell0 rfl, (A1.ext E).cell0 rfl, (A1.ext E).cell0 rfl, (A1.ext E).cell0 rfl⟩
        clear hK K'
        try simp only [Act.put, List.setIfInBounds_toArray, List.set_cons_zero, List.set_cons_succ]
        refine wpAnyH_ready (rs := [3, 8]) (by kernel_rfl) (by simp) ?_
        refine AllReadyH.cons rfl (fun K' hK => ?_) (AllReadyH.cons rfl (fun K' hK => ?_) AllReadyH.nil)
        · refine if_yes (by rfl) ?_
          try simp only [Act.put, List.setIfInBounds_toArray, List.set_cons_zero, List.set_cons_succ]
          go_simp
          refine (laws_toBound b1 _).mono ?_
          rintro e u2x ⟨rfl, hb⟩
          have E := ext_trans E hb
          have hr0 := hr0.ext hb
          clear hb
          go_wp2_with fail
          refine hK.out _ _ ?_ (fun hHeld => ?_)
          · exact ⟨(A0.ext E).cell0 rfl, (A0.ext E).cell0 rfl, (A1.ext E).cell0 rfl, (A1.ext E).cell0 rfl, (A1.ext E).cell0 rfl⟩
          clear hK K'
          try simp only [Act.put, List.setIfInBounds_toArray, List.set_cons_zero, List.set_cons_succ]
          refine wpAnyH_ready (rs := [4, 8]) (by kernel_rfl) (by simp) ?_
          refine AllReadyH.cons rfl (fun K' hK => ?_) (AllReadyH.cons rfl (fun K' hK => ?_) AllReadyH.nil)
          · refine if_yes (by rfl) ?_
            try simp only [Act.put, List.setIfInBounds_toArray, List.set_cons_zero, List.set_cons_succ]
            go_simp
            refine (impl_WithBound (⟨pts0, l0⟩ : Pl) b1 _ _ (hr0.base (Nat.zero_le _)) (by simp; omega)).mono ?_
            rintro e u3x ⟨rw, rfl, hrow, hb⟩
            rw [← hP'.out] at hrow ⊢
            rw [← hb'.out]
            have hrow := hrow.base E.size
            have E := ext_trans E hb
            clear hb
            obtain ⟨aw, cw, rfl, -⟩ := hrow.open
            go_wp2_with fail
            refine hK.out _ _ ?_ (fun hHeld => ?_)
            · exact ⟨(A0.ext E).cell0 rfl, (A0.ext E).cell0 rfl, (A1.ext E).cell0 rfl, (A1.ext E).cell0 rfl, (A1.ext E).cell0 rfl⟩
            clear hK K'
            try simp only [Act.put, List.setIfInBounds_toArray, List.set_cons_zero, List.set_cons_succ]
            refine wpAnyH_take (i := 5) (v := ?_) rfl (by kernel_rfl) (by kernel_rfl) (by kernel_rfl) (fun _ _ _ h => h) (Or.inl ⟨by rfl, fun w' hS' => ?_⟩) (by assumption) ?_
            rotate_left
            · (try dsimp only at hS'); go_simp; (try rw [if_pos (by omega)]); try with_reducible rfl
            try simp only [Act.put, List.getElem_toArray, List.getElem_cons_zero, List.getElem_cons_succ, List.setIfInBounds_toArray, List.set_cons_zero, List.set_cons_succ]
            refine wpAnyH_take (i := 6) (v := ?_) rfl (by kernel_rfl) (by kernel_rfl) (by kernel_rfl) (fun _ _ _ h => h) (Or.inl ⟨by rfl, fun w' hS' => ?_⟩) (by assumption) ?_
            rotate_left
            · (try dsimp only at hS'); go_simp; (try rw [if_pos (by omega)]); try with_reducible rfl
            try simp only [Act.put, List.getElem_toArray, List.getElem_cons_zero, List.getElem_cons_succ, List.setIfInBounds_toArray, List.set_cons_zero, List.set_cons_succ]
            refine wpAnyH_take (i := 7) (v := ?_) rfl (by kernel_rfl) (by kernel_rfl) (by kernel_rfl) (fun _ _ _ h => h) (Or.inl ⟨by rfl, fun w' hS' => ?_⟩) (by assumption) ?_
            rotate_left
            · (try dsimp only at hS'); go_simp; (try rw [if_pos (by omega)]); try with_reducible rfl
            try simp only [Act.put, List.getElem_toArray, List.getElem_cons_zero, List.getElem_cons_succ, List.setIfInBounds_toArray, List.set_cons_zero, List.set_cons_succ]
            refine wpAnyH_ready (rs := [8]) (by kernel_rfl) (by simp) ?_
            refine AllReadyH.cons rfl (fun K' hK => ?_) AllReadyH.nil
            refine if_yes (by rfl) ?_
            try simp only [Act.put, List.setIfInBounds_toArray, List.set_cons_zero, List.set_cons_succ]
            go_simp
            have hgow : w11.heap.size ≤ u3x.heap.size := E.size
            have Bo := Box.new u3x 25 #[.int .i64 0, .slice none 0 0]
            have E := ext_alloc E (.cells #[.int .i64 0, .slice none 0 0] 25)
            obtain ⟨u4x, hu4x⟩ : ∃ u4x, Hid (u4x = u3x.alloc (.cells #[.int .i64 0, .slice none 0 0] 25)) := ⟨_, rfl⟩
            rw [← hu4x.out] at Bo E ⊢
            have hrow := hrow.alloc (.cells #[.int .i64 0, .slice none 0 0] 25)
            rw [← hu4x.out] at hrow
            refine hK.out _ _ ?_ (fun hHeld => ?_)
            · exact ⟨(A0.ext E).cell0 rfl, (A0.ext E).cell0 rfl, (A1.ext E).cell0 rfl, (A1.ext E).cell0 rfl, (A1.ext E).cell0 rfl⟩
            clear hK K'
            try simp only [Act.put, List.setIfInBounds_toArray, List.set_cons_zero, List.set_cons_succ]
            obtain ⟨rco, rzo⟩ := (Bo).rules; have rlo := (Bo).lt
            refine wpAnyH_ready (rs := [9]) (by kernel_rfl) (by simp) ?_
            refine AllReadyH.cons rfl (fun K' hK => ?_) AllReadyH.nil
            refine if_yes (by rfl) ?_
            go_simp
            have E := ext_set (ext_set E (p := ⟨u3x.heap.size, 0, none⟩) hgow (.int .i64 P'.pts)) (p := ⟨u3x.heap.size, 1, none⟩) hgow (.slice aw P'.bs.length cw)
            have hrow := own_far hrow (grown_set (i := 1) (grown_set (i := 0) (World.grownBy.refl _ (some (u3x.heap.size))) (.int .i64 P'.pts)) (.slice aw P'.bs.length cw)) (fun k hk e => own_not_box hrow Bo (by rw [hk]; exact e))
            have Bo := (Bo.set 0 (.int .i64 P'.pts)).set 1 (.slice aw P'.bs.length cw)
            refine hK.out _ _ ?_ (fun hHeld => ?_)
            · exact ⟨(A0.ext E).cell0 rfl, (A0.ext E).cell0 rfl, (A1.ext E).cell0 rfl, (A1.ext E).cell0 rfl, (A1.ext E).cell0 rfl⟩
            clear hK K'
            try simp only [Act.put, List.setIfInBounds_toArray, List.set_cons_zero, List.set_cons_succ]
            refine wpAnyH_ready (rs := [10]) (by kernel_rfl) (by simp) ?_
            refine AllReadyH.cons rfl (fun K' hK => ?_) AllReadyH.nil
            refine if_yes (by rfl) ?_
            go_simp
            refine hK.out _ _ ?_ (fun hHeld => ?_)
            · exact ⟨(A0.ext E).cell0 rfl, (A0.ext E).cell0 rfl, (A1.ext E).cell0 rfl, (A1.ext E).cell0 rfl, (A1.ext E).cell0 rfl⟩
            clear hK K'
            try simp only [Act.put, List.setIfInBounds_toArray, List.set_cons_zero, List.set_cons_succ]
            refine wpAnyH_done (by kernel_rfl) ?_ _
            try simp only [Act.put, List.setIfInBounds_toArray, List.set_cons_zero, List.set_cons_succ]
            go_wp2_with fail
            go_meet
            exact ⟨u3x.heap.size, .slice aw P'.bs.length cw, rfl, rfl, Bo, hrow, hgow, E⟩
          · refine if_yes (by rfl) ?_
            try simp only [Act.put, List.setIfInBounds_toArray, List.set_cons_zero, List.set_cons_succ]
            go_simp
            have hgow : w11.heap.size ≤ u2x.heap.size := E.size
            have Bo := Box.new u2x 25 #[.int .i64 0, .slice none 0 0]
            have E := ext_alloc E (.cells #[.int .i64 0, .slice none 0 0] 25)
            obtain ⟨u5x, hu5x⟩ : ∃ u5x, Hid (u5x = u2x.alloc (.cells #[.int .i64 0, .slice none 0 0] 25)) := ⟨_, rfl⟩
            rw [← hu5x.out] at Bo E ⊢
            have hr0 := hr0.alloc (.cells #[.int .i64 0, .slice none 0 0] 25)
            rw [← hu5x.out] at hr0
            refine hK.out _ _ ?_ (fun hHeld => ?_)
            · exact ⟨(A0.ext E).cell0 rfl, (A0.ext E).cell0 rfl, (A1.ext E).cell0 rfl, (A1.ext E).cell0 rfl, (A1.ext E).cell0 rfl⟩
            clear hK K'
            try simp only [Act.put, List.setIfInBounds_toArray, List.set_cons_zero, List.set_cons_succ]
            refine wpAnyH_ready (rs := [4]) (by kernel_rfl) (by simp) ?_
            refine AllReadyH.cons rfl (fun K' hK => ?_) AllReadyH.nil
            refine if_yes (by rfl) ?_
            try simp only [Act.put, List.setIfInBounds_toArray, List.set_cons_zero, List.set_cons_succ]
            go_simp
            refine (impl_WithBound (⟨pts0, l0⟩ : Pl) b1 _ _ (hr0.base (Nat.zero_le _)) (by simp; omega)).mono ?_
            rintro e u6x ⟨rw, rfl, hrow, hb⟩
            rw [← hP'.out] at hrow ⊢
            rw [← hb'.out]
            have hrow := hrow.base E.size
            have E := ext_trans E hb
            have Bo := Bo.ext hb
            clear hb
            obtain ⟨aw, cw, rfl, -⟩ := hrow.open
            go_wp2_with fail
            refine hK.out _ _ ?_ (fun hHeld => ?_)
            · exact ⟨(A0.ext E).cell0 rfl, (A0.ext E).cell0 rfl, (A1.ext E).cell0 rfl, (A1.ext E).cell0 rfl, (A1.ext E).cell0 rfl⟩
            clear hK K'
            try simp only [Act.put, List.setIfInBounds_toArray, List.set_cons_zero, List.set_cons_succ]
            refine wpAnyH_take (i := 5) (v := ?_) rfl (by kernel_rfl) (by kernel_rfl) (by kernel_rfl) (fun _ _ _ h => h) (Or.inl ⟨by rfl, fun w' hS' => ?_⟩) (by assumption) ?_
            rotate_left
            · (try dsimp only at hS'); go_simp; (try rw [if_pos (by omega)]); try with_reducible rfl
            try simp only [Act.put, List.getElem_toArray, List.getElem_cons_zero, List.getElem_cons_succ, List.setIfInBounds_toArray, List.set_cons_zero, List.set_cons_succ]
            refine wpAnyH_take (i := 6) (v := ?_) rfl (by kernel_rfl) (by kernel_rfl) (by kernel_rfl) (fun _ _ _ h => h) (Or.inl ⟨by rfl, fun w' hS' => ?_⟩) (by assumption) ?_
            rotate_left
            · (try dsimp only at hS'); go_simp; (try rw [if_pos (by omega)]); try with_reducible rfl
            try simp only [Act.put, List.getElem_toArray, List.getElem_cons_zero, List.getElem_cons_succ, List.setIfInBounds_toArray, List.set_cons_zero, List.set_cons_succ]
            refine wpAnyH_take (i := 7) (v := ?_) rfl (by kernel_rfl) (by kernel_rfl) (by kernel_rfl) (fun _ _ _ h => h) (Or.inl ⟨by rfl, fun w' hS' => ?_⟩) (by assumption) ?_
            rotate_left
            · (try dsimp only at hS'); go_simp; (try rw [if_pos (by omega)]); try with_reducible rfl
            try simp only [Act.put, List.getElem_toArray, List.getElem_cons_zero, List.getElem_cons_succ, List.setIfInBounds_toArray, List.set_cons_zero, List.set_cons_succ]
            obtain ⟨rco, rzo⟩ := (Bo).rules; have rlo := (Bo).lt
            refine wpAnyH_ready (rs := [9]) (by kernel_rfl) (by simp) ?_
            refine AllReadyH.cons rfl (fun K' hK => ?_) AllReadyH.nil
            refine if_yes (by rfl) ?_
            go_simp
            have E := ext_set (ext_set E (p := ⟨u2x.heap.size, 0, none⟩) hgow (.int .i64 P'.pts)) (p := ⟨u2x.heap.size, 1, none⟩) hgow (.slice aw P'.bs.length cw)
            have hrow := own_far hrow (grown_set (i := 1) (grown_set (i := 0) (World.grownBy.refl _ (some (u2x.heap.size))) (.int .i64 P'.pts)) (.slice aw P'.bs.length cw)) (fun k hk e => own_not_box hrow Bo (by rw [hk]; exact e))
            have Bo := (Bo.set 0 (.int .i64 P'.pts)).set 1 (.slice aw P'.bs.length cw)
            refine hK.out _ _ ?_ (fun hHeld => ?_)
            · exact ⟨(A0.ext E).cell0 rfl, (A0.ext E).cell0 rfl, (A1.ext E).cell0 rfl, (A1.ext E).cell0 rfl, (A1.ext E).cell0 rfl⟩
            clear hK K'
            try simp only [Act.put, List.setIfInBounds_toArray, List.set_cons_zero, List.set_cons_succ]
            refine wpAnyH_ready (rs := [10]) (by kernel_rfl) (by simp) ?_
            refine AllReadyH.cons rfl (fun K' hK => ?_) AllReadyH.nil
            refine if_yes (by rfl) ?_
            go_simp
            refine hK.out _ _ ?_ (fun hHeld => ?_)
            · exact ⟨(A0.ext E).cell0 rfl, (A0.ext E).cell0 rfl, (A1.ext E).cell0 rfl, (A1.ext E).cell0 rfl, (A1.ext E).cell0 rfl⟩
            clear hK K'
            try simp only [Act.put, List.setIfInBounds_toArray, List.set_cons_zero, List.set_cons_succ]
            refine wpAnyH_done (by kernel_rfl) ?_ _
            try simp only [Act.put, List.setIfInBounds_toArray, List.set_cons_zero, List.set_cons_succ]
            go_wp2_with fail
            go_meet
            exact ⟨u2x.heap.size, .slice aw P'.bs.length cw, rfl, rfl, Bo, hrow, hgow, E⟩
        · refine if_yes (by rfl) ?_
          try simp only [Act.put, List.setIfInBounds_toArray, List.set_cons_zero, List.set_cons_succ]
          go_simp
          have hgow : w11.heap.size ≤ u1x.heap.size := E.size
          have Bo := Box.new u1x 25 #[.int .i64 0, .slice none 0 0]
          have E := ext_alloc E (.cells #[.int .i64 0, .slice none 0 0] 25)
          obtain ⟨u7x, hu7x⟩ : ∃ u7x, Hid (u7x = u1x.alloc (.cells #[.int .i64 0, .slice none 0 0] 25)) := ⟨_, rfl⟩
          rw [← hu7x.out] at Bo E ⊢
          have hr0 := hr0.alloc (.cells #[.int .i64 0, .slice none 0 0] 25)
          rw [← hu7x.out] at hr0
          refine hK.out _ _ ?_ (fun hHeld => ?_)
          · exact ⟨(A0.ext E).cell0 rfl, (A0.ext E).cell0 rfl, (A1.ext E).cell0 rfl, (A1.ext E).cell0 rfl, (A1.ext E).cell0 rfl⟩
          clear hK K'
          try simp only [Act.put, List.setIfInBounds_toArray, List.set_cons_zero, List.set_cons_succ]
          refine wpAnyH_ready (rs := [3]) (by kernel_rfl) (by simp) ?_
          refine AllReadyH.cons rfl (fun K' hK => ?_) AllReadyH.nil
          refine if_yes (by rfl) ?_
          try simp only [Act.put, List.setIfInBounds_toArray, List.set_cons_zero, List.set_cons_succ]
          go_simp
          refine (laws_toBound b1 _).mono ?_
          rintro e u8x ⟨rfl, hb⟩
          have E := ext_trans E hb
          have hr0 := hr0.ext hb
          have Bo := Bo.ext hb
          clear hb
          go_wp2_with fail
          refine hK.out _ _ ?_ (fun hHeld => ?_)
          · exact ⟨(A0.ext E).cell0 rfl, (A0.ext E).cell0 rfl, (A1.ext E).cell0 rfl, (A1.ext E).cell0 rfl, (A1.ext E).cell0 rfl⟩
          clear hK K'
          try simp only [Act.put, List.setIfInBounds_toArray, List.set_cons_zero, List.set_cons_succ]
          refine wpAnyH_ready (rs := [4]) (by kernel_rfl) (by simp) ?_
          refine AllReadyH.cons rfl (fun K' hK => ?_) AllReadyH.nil
          refine if_yes (by rfl) ?_
          try simp only [Act.put, List.setIfInBounds_toArray, List.set_cons_zero, List.set_cons_succ]
          go_simp
          refine (impl_WithBound (⟨pts0, l0⟩ : Pl) b1 _ _ (hr0.base (Nat.zero_le _)) (by simp; omega)).mono ?_
          rintro e u9x ⟨rw, rfl, hrow, hb⟩
          rw [← hP'.out] at hrow ⊢
          rw [← hb'.out]
          have hrow := hrow.base E.size
          have E := ext_trans E hb
          have Bo := Bo.ext hb
          clear hb
          obtain ⟨aw, cw, rfl, -⟩ := hrow.open
          go_wp2_with fail
          refine hK.out _ _ ?_ (fun hHeld => ?_)
          · exact ⟨(A0.ext E).cell0 rfl, (A0.ext E).cell0 rfl, (A1.ext E).cell0 rfl, (A1.ext E).cell0 rfl, (A1.ext E).cell0 rfl⟩
          clear hK K'
          try simp only [Act.put, List.setIfInBounds_toArray, List.set_cons_zero, List.set_cons_succ]
          refine wpAnyH_take (i := 5) (v := ?_) rfl (by kernel_rfl) (by kernel_rfl) (by kernel_rfl) (fun _ _ _ h => h) (Or.inl ⟨by rfl, fun w' hS' => ?_⟩) (by assumption) ?_
          rotate_left
          · (try dsimp only at hS'); go_simp; (try rw [if_pos (by omega)]); try with_reducible rfl
          try simp only [Act.put, List.getElem_toArray, List.getElem_cons_zero, List.getElem_cons_succ, List.setIfInBounds_toArray, List.set_cons_zero, List.set_cons_succ]
          refine wpAnyH_take (i := 6) (v := ?_) rfl (by kernel_rfl) (by kernel_rfl) (by kernel_rfl) (fun _ _ _ h => h) (Or.inl ⟨by rfl, fun w' hS' => ?_⟩) (by assumption) ?_
          rotate_left
          · (try dsimp only at hS'); go_simp; (try rw [if_pos (by omega)]); try with_reducible rfl
          try simp only [Act.put, List.getElem_toArray, List.getElem_cons_zero, List.getElem_cons_succ, List.setIfInBounds_toArray, List.set_cons_zero, List.set_cons_succ]
          refine wpAnyH_take (i := 7) (v := ?_) rfl (by kernel_rfl) (by kernel_rfl) (by kernel_rfl) (fun _ _ _ h => h) (Or.inl ⟨by rfl, fun w' hS' => ?_⟩) (by assumption) ?_
          rotate_left
          · (try dsimp only at hS'); go_simp; (try rw [if_pos (by omega)]); try with_reducible rfl
          try simp only [Act.put, List.getElem_toArray, List.getElem_cons_zero, List.getElem_cons_succ, List.setIfInBounds_toArray, List.set_cons_zero, List.set_cons_succ]
          obtain ⟨rco, rzo⟩ := (Bo).rules; have rlo := (Bo).lt
          refine wpAnyH_ready (rs := [9]) (by kernel_rfl) (by simp) ?_
          refine AllReadyH.cons rfl (fun K' hK => ?_) AllReadyH.nil
          refine if_yes (by rfl) ?_
          go_simp
          have E := ext_set (ext_set E (p := ⟨u1x.heap.size, 0, none⟩) hgow (.int .i64 P'.pts)) (p := ⟨u1x.heap.size, 1, none⟩) hgow (.slice aw P'.bs.length cw)
          have hrow := own_far hrow (grown_set (i := 1) (grown_set (i := 0) (World.grownBy.refl _ (some (u1x.heap.size))) (.int .i64 P'.pts)) (.slice aw P'.bs.length cw)) (fun k hk e => own_not_box hrow Bo (by rw [hk]; exact e))
          have Bo := (Bo.set 0 (.int .i64 P'.pts)).set 1 (.slice aw P'.bs.length cw)
          refine hK.out _ _ ?_ (fun hHeld => ?_)
          · exact ⟨(A0.ext E).cell0 rfl, (A0.ext E).cell0 rfl, (A1.ext E).cell0 rfl, (A1.ext E).cell0 rfl, (A1.ext E).cell0 rfl⟩
          clear hK K'
          try simp only [Act.put, List.setIfInBounds_toArray, List.set_cons_zero, List.set_cons_succ]
          refine wpAnyH_ready (rs := [10]) (by kernel_rfl) (by simp) ?_
          refine AllReadyH.cons rfl (fun K' hK => ?_) AllReadyH.nil
          refine if_yes (by rfl) ?_
          go_simp
          refine hK.out _ _ ?_ (fun hHeld => ?_)
          · exact ⟨(A0.ext E).cell0 rfl, (A0.ext E).cell0 rfl, (A1.ext E).cell0 rfl, (A1.ext E).cell0 rfl, (A1.ext E).cell0 rfl⟩
          clear hK K'
          try simp only [Act.put, List.setIfInBounds_toArray, List.set_cons_zero, List.set_cons_succ]
          refine wpAnyH_done (by kernel_rfl) ?_ _
          try simp only [Act.put, List.setIfInBounds_toArray, List.set_cons_zero, List.set_cons_succ]
          go_wp2_with fail
          go_meet
          exact ⟨u1x.heap.size, .slice aw P'.bs.length cw, rfl, rfl, Bo, hrow, hgow, E⟩
      · refine if_yes (by rfl) ?_
        try simp only [Act.put, List.setIfInBounds_toArray, List.set_cons_zero, List.set_cons_succ]
        go_simp
        have hgow : w11.heap.size ≤ D.heap.size := E.size
        have Bo := Box.new D 25 #[.int .i64 0, .slice none 0 0]
        have E := ext_alloc E (.cells #[.int .i64 0, .slice none 0 0] 25)
        obtain ⟨u10x, hu10x⟩ : ∃ u10x, Hid (u10x = D.alloc (.cells #[.int .i64 0, .slice none 0 0] 25)) := ⟨_, rfl⟩
        rw [← hu10x.out] at Bo E ⊢
        refine hK.out _ _ ?_ (fun hHeld => ?_)
        · exact ⟨(A0.ext E).cell0 rfl, (A0.ext E).cell0 rfl, (A1.ext E).cell0 rfl, (A1.ext E).cell0 rfl, (A1.ext E).cell0 rfl⟩
        clear hK K'
        try simp only [Act.put, List.setIfInBounds_toArray, List.set_cons_zero, List.set_cons_succ]
        refine wpAnyH_ready (rs := [1]) (by kernel_rfl) (by simp) ?_
        refine AllReadyH.cons rfl (fun K' hK => ?_) AllReadyH.nil
        refine if_yes (by rfl) ?_
        try simp only [Act.put, List.setIfInBounds_toArray, List.set_cons_zero, List.set_cons_succ]
        go_simp
        refine (laws_toPlan pts0 a0 n0 cap0 l0 _ (H0.out.ext (ext_trans E0 E)) (by omega)).mono ?_
        rintro e u11x ⟨r0, rfl, hr0, hb⟩
        have E := ext_trans E hb
        have Bo := Bo.ext hb
        clear hb
        go_wp2_with fail
        refine hK.out _ _ ?_ (fun hHeld => ?_)
        · exact ⟨(A0.ext E).cell0 rfl, (A0.ext E).cell0 rfl, (A1.ext E).cell0 rfl, (A1.ext E).cell0 rfl, (A1.ext E).cell0 rfl⟩
        clear hK K'
        try simp only [Act.put, List.setIfInBounds_toArray, List.set_cons_zero, List.set_cons_succ]
        refine wpAnyH_ready (rs := [3]) (by kernel_rfl) (by simp) ?_
        refine AllReadyH.cons rfl (fun K' hK => ?_) AllReadyH.nil
        refine if_yes (by rfl) ?_
        try simp only [Act.put, List.setIfInBounds_toArray, List.set_cons_zero, List.set_cons_succ]
        go_simp
        refine (laws_toBound b1 _).mono ?_
        rintro e u12x ⟨rfl, hb⟩
        have E := ext_trans E hb
        have hr0 := hr0.ext hb
        have Bo := Bo.ext hb
        clear hb
        go_wp2_with fail
        refine hK.out _ _ ?_ (fun hHeld => ?_)
        · exact ⟨(A0.ext E).cell0 rfl, (A0.ext E).cell0 rfl, (A1.ext E).cell0 rfl, (A1.ext E).cell0 rfl, (A1.ext E).cell0 rfl⟩
        clear hK K'
        try simp only [Act.put, List.setIfInBounds_toArray, List.set_cons_zero, List.set_cons_succ]
        refine wpAnyH_ready (rs := [4]) (by kernel_rfl) (by simp) ?_
        refine AllReadyH.cons rfl (fun K' hK => ?_) AllReadyH.nil
        refine if_yes (by rfl) ?_
        try simp only [Act.put, List.setIfInBounds_toArray, List.set_cons_zero, List.set_cons_succ]
        go_simp
        refine (impl_WithBound (⟨pts0, l0⟩ : Pl) b1 _ _ (hr0.base (Nat.zero_le _)) (by simp; omega)).mono ?_
        rintro e u13x ⟨rw, rfl, hrow, hb⟩
        rw [← hP'.out] at hrow ⊢
        rw [← hb'.out]
        have hrow := hrow.base E.size
        have E := ext_trans E hb
        have Bo := Bo.ext hb
        clear hb
        obtain ⟨aw, cw, rfl, -⟩ := hrow.open
        go_wp2_with fail
        refine hK.out _ _ ?_ (fun hHeld => ?_)
        · exact ⟨(A0.ext E).cell0 rfl, (A0.ext E).cell0 rfl, (A1.ext E).cell0 rfl, (A1.ext E).cell0 rfl, (A1.ext E).cell0 rfl⟩
        clear hK K'
        try simp only [Act.put, List.setIfInBounds_toArray, List.set_cons_zero, List.set_cons_succ]
        refine wpAnyH_take (i := 5) (v := ?_) rfl (by kernel_rfl) (by kernel_rfl) (by kernel_rfl) (fun _ _ _ h => h) (Or.inl ⟨by rfl, fun w' hS' => ?_⟩) (by assumption) ?_
        rotate_left
        · (try dsimp only at hS'); go_simp; (try rw [if_pos (by omega)]); try with_reducible rfl
        try simp only [Act.put, List.getElem_toArray, List.getElem_cons_zero, List.getElem_cons_succ, List.setIfInBounds_toArray, List.set_cons_zero, List.set_cons_succ]
        refine wpAnyH_take (i := 6) (v := ?_) rfl (by kernel_rfl) (by kernel_rfl) (by kernel_rfl) (fun _ _ _ h => h) (Or.inl ⟨by rfl, fun w' hS' => ?_⟩) (by assumption) ?_
        rotate_left
        · (try dsimp only at hS'); go_simp; (try rw [if_pos (by omega)]); try with_reducible rfl
        try simp only [Act.put, List.getElem_toArray, List.getElem_cons_zero, List.getElem_cons_succ, List.setIfInBounds_toArray, List.set_cons_zero, List.set_cons_succ]
        refine wpAnyH_take (i := 7) (v := ?_) rfl (by kernel_rfl) (by kernel_rfl) (by kernel_rfl) (fun _ _ _ h => h) (Or.inl ⟨by rfl, fun w' hS' => ?_⟩) (by assumption) ?_
        rotate_left
        · (try dsimp only at hS'); go_simp; (try rw [if_pos (by omega)]); try with_reducible rfl
        try simp only [Act.put, List.getElem_toArray, List.getElem_cons_zero, List.getElem_cons_succ, List.setIfInBounds_toArray, List.set_cons_zero, List.set_cons_succ]
        obtain ⟨rco, rzo⟩ := (Bo).rules; have rlo := (Bo).lt
        refine wpAnyH_ready (rs := [9]) (by kernel_rfl) (by simp) ?_
        refine AllReadyH.cons rfl (fun K' hK => ?_) AllReadyH.nil
        refine if_yes (by rfl) ?_
        go_simp
        have E := ext_set (ext_set E (p := ⟨D.heap.size, 0, none⟩) hgow (.int .i64 P'.pts)) (p := ⟨D.heap.size, 1, none⟩) hgow (.slice aw P'.bs.length cw)
        have hrow := own_far hrow (grown_set (i := 1) (grown_set (i := 0) (World.grownBy.refl _ (some (D.heap.size))) (.int .i64 P'.pts)) (.slice aw P'.bs.length cw)) (fun k hk e => own_not_box hrow Bo (by rw [hk]; exact e))
        have Bo := (Bo.set 0 (.int .i64 P'.pts)).set 1 (.slice aw P'.bs.length cw)
        refine hK.out _ _ ?_ (fun hHeld => ?_)
        · exact ⟨(A0.ext E).cell0 rfl, (A0.ext E).cell0 rfl, (A1.ext E).cell0 rfl, (A1.ext E).cell0 rfl, (A1.ext E).cell0 rfl⟩
        clear hK K'
        try simp only [Act.put, List.setIfInBounds_toArray, List.set_cons_zero, List.set_cons_succ]
        refine wpAnyH_ready (rs := [10]) (by kernel_rfl) (by simp) ?_
        refine AllReadyH.cons rfl (fun K' hK => ?_) AllReadyH.nil
        refine if_yes (by rfl) ?_
        go_simp
        refine hK.out _ _ ?_ (fun hHeld => ?_)
        · exact ⟨(A0.ext E).cell0 rfl, (A0.ext E).cell0 rfl, (A1.ext E).cell0 rfl, (A1.ext E).cell0 rfl, (A1.ext E).cell0 rfl⟩
        clear hK K'
        try simp only [Act.put, List.setIfInBounds_toArray, List.set_cons_zero, List.set_cons_succ]
        refine wpAnyH_done (by kernel_rfl) ?_ _
        try simp only [Act.put, List.setIfInBounds_toArray, List.set_cons_zero, List.set_cons_succ]
        go_wp2_with fail
        go_meet
        exact ⟨D.heap.size, .slice aw P'.bs.length cw, rfl, rfl, Bo, hrow, hgow, E⟩
    rename World => w12
    obtain ⟨goh, sh, rfl, rfl, Bh, hsh, hgoh, hb12⟩ := hcut
    obtain ⟨ah, ch, rfl, -⟩ := hsh.open
    have Bhsh := Lib.hid hsh.lt
    have A0 := A0.ext hb12
    have A1 := A1.ext hb12
    have Bw := Bw.ext hb12
    have X0 := X0.ext hb12
    have Bg := Bg.ext hb12
    have hsw := hsw.ext hb12
    have hsx0 := hsx0.ext hb12
    have hsg := hsg.ext hb12
    have E := ext_trans E hb12
    have q12 := hb12.size
    obtain ⟨rcA0, rzA0⟩ := (A0).rules; have rlA0 := (A0).lt
    obtain ⟨rcA1, rzA1⟩ := (A1).rules; have rlA1 := (A1).lt
    obtain ⟨rcBw, rzBw⟩ := (Bw).rules; have rlBw := (Bw).lt
    obtain ⟨rcX0, rzX0⟩ := (X0).rules; have rlX0 := (X0).lt
    obtain ⟨rcBg, rzBg⟩ := (Bg).rules; have rlBg := (Bg).lt
    obtain ⟨rcBh, rzBh⟩ := (Bh).rules; have rlBh := (Bh).lt
    go_wp2_with fail
    refine (laws_eqPlan P' P' _ _ _ ((hsh).base (Nat.zero_le _)) ((hsw).base (Nat.zero_le _))).mono ?_
    rintro e w13 ⟨rfl, hb13⟩
    have A0 := A0.ext hb13
    have A1 := A1.ext hb13
    have Bw := Bw.ext hb13
    have X0 := X0.ext hb13
    have Bg := Bg.ext hb13
    have Bh := Bh.ext hb13
    have hsw := hsw.ext hb13
    have hsx0 := hsx0.ext hb13
    have hsg := hsg.ext hb13
    have hsh := hsh.ext hb13
    have E := ext_trans E hb13
    have q13 := hb13.size
    rw [decide_eq_true rfl]
    obtain ⟨rcA0, rzA0⟩ := (A0).rules; have rlA0 := (A0).lt
    obtain ⟨rcA1, rzA1⟩ := (A1).rules; have rlA1 := (A1).lt
    obtain ⟨rcBw, rzBw⟩ := (Bw).rules; have rlBw := (Bw).lt
    obtain ⟨rcX0, rzX0⟩ := (X0).rules; have rlX0 := (X0).lt
    obtain ⟨rcBg, rzBg⟩ := (Bg).rules; have rlBg := (Bg).lt
    obtain ⟨rcBh, rzBh⟩ := (Bh).rules; have rlBh := (Bh).lt
    go_wp2_with fail
    refine (laws_heldPlan P'.pts _ P'.bs.length 1 _ (hsg.base (Nat.zero_le _)) (by omega) (by omega) (by omega)).mono ?_
    rintro e w14 ⟨rfl, hb14⟩
    have A0 := A0.ext hb14
    have A1 := A1.ext hb14
    have Bw := Bw.ext hb14
    have X0 := X0.ext hb14
    have Bg := Bg.ext hb14
    have Bh := Bh.ext hb14
    have hsw := hsw.ext hb14
    have hsx0 := hsx0.ext hb14
    have hsg := hsg.ext hb14
    have hsh := hsh.ext hb14
    have E := ext_trans E hb14
    have q14 := hb14.size
    obtain ⟨rcA0, rzA0⟩ := (A0).rules; have rlA0 := (A0).lt
    obtain ⟨rcA1, rzA1⟩ := (A1).rules; have rlA1 := (A1).lt
    obtain ⟨rcBw, rzBw⟩ := (Bw).rules; have rlBw := (Bw).lt
    obtain ⟨rcX0, rzX0⟩ := (X0).rules; have rlX0 := (X0).lt
    obtain ⟨rcBg, rzBg⟩ := (Bg).rules; have rlBg := (Bg).lt
    obtain ⟨rcBh, rzBh⟩ := (Bh).rules; have rlBh := (Bh).lt
    go_wp2_with fail
    go_ret
    exact ⟨rfl, E⟩
end Go.Proofs.Ytcjdodjjdchnaaa
