/- The walk of FnExactCommonOf: it returns true, whatever two plans came in. No condition. -/
import Derived.Test.YtpccfkbpnfbdaaaLawPlan
import Derived.Test.YtpccfkbpnfbdaaaCommon
import Derived.Test.YtpccfkbpnfbdaaaCommonS
import Derived.Test.YtpccfkbpnfbdaaaPlanOut
namespace Go.Proofs.Ytpccfkbpnfbdaaa
open Go.RowKit
set_option linter.unusedVariables false
set_option linter.unusedSimpArgs false
set_option maxRecDepth 100000 in
set_option maxHeartbeats 8000000 in
theorem walk_ExactCommonOf (pts0 : Int) (a0 : Option Addr) (n0 cap0 : Nat) (l0 : List Bd) (pts1 : Int) (a1 : Option Addr) (n1 cap1 : Nat) (l1 : List Bd) (w : World) (h0 : ABds w a0 n0 cap0 l0) (h1 : ABds w a1 n1 cap1 l1) :
    Calls Try.prog 8 #[.agg #[.int .i64 pts0, .slice a0 n0 cap0], .agg #[.int .i64 pts1, .slice a1 n1 cap1]] w fun e w' => e = .returned (.bool true) ∧ Below w.heap.size w w' := by
  obtain ⟨hl0, hcap0, hmax0, -⟩ := id h0
  have H0 := Lib.hid h0
  have HL0 := Lib.hid hl0
  clear h0 hl0
  obtain ⟨hl1, hcap1, hmax1, -⟩ := id h1
  have H1 := Lib.hid h1
  have HL1 := Lib.hid hl1
  clear h1 hl1
  by_cases hbig0 : (1048576 : Int) - n0 < 0
  · have Hs0 := Lib.hid (szR_neg hbig0)
    go_enter Try.func8, Try.ntmps8
    go_wp2_with fail
    obtain ⟨W, hW, A0, A1, -, E⟩ := two_boxes w #[Value.int .i64 pts0, .slice a0 n0 cap0] #[Value.int .i64 pts1, .slice a1 n1 cap1] 24 24
    rw [← hW.out]
    refine (laws_szPlan pts0 a0 n0 cap0 _ _ (by omega) (by omega) (by omega)).mono ?_
    rintro e v0 ⟨rfl, hb0⟩
    rw [Hs0.out]
    have E := ext_trans E hb0
    have A0 := A0.ext hb0
    have A1 := A1.ext hb0
    obtain ⟨rcA0, rzA0⟩ := (A0).rules; have rlA0 := (A0).lt
    obtain ⟨rcA1, rzA1⟩ := (A1).rules; have rlA1 := (A1).lt
    go_wp2_with fail
    go_ret
    exact ⟨rfl, E⟩
  · have Hs0 := Lib.hid (szR_pos hbig0)
    by_cases hbig1 : (1048576 : Int) - n0 - n1 < 0
    · have Hs1 := Lib.hid (szR_neg hbig1)
      go_enter Try.func8, Try.ntmps8
      go_wp2_with fail
      obtain ⟨W, hW, A0, A1, -, E⟩ := two_boxes w #[Value.int .i64 pts0, .slice a0 n0 cap0] #[Value.int .i64 pts1, .slice a1 n1 cap1] 24 24
      rw [← hW.out]
      refine (laws_szPlan pts0 a0 n0 cap0 _ _ (by omega) (by omega) (by omega)).mono ?_
      rintro e v0 ⟨rfl, hb0⟩
      rw [Hs0.out]
      have E := ext_trans E hb0
      have A0 := A0.ext hb0
      have A1 := A1.ext hb0
      obtain ⟨rcA0, rzA0⟩ := (A0).rules; have rlA0 := (A0).lt
      obtain ⟨rcA1, rzA1⟩ := (A1).rules; have rlA1 := (A1).lt
      go_wp2_with fail
      refine (laws_szPlan pts1 a1 n1 cap1 _ _ (by omega) (by omega) (by omega)).mono ?_
      rintro e v1 ⟨rfl, hb1⟩
      rw [Hs1.out]
      have E := ext_trans E hb1
      have A0 := A0.ext hb1
      have A1 := A1.ext hb1
      obtain ⟨rcA0, rzA0⟩ := (A0).rules; have rlA0 := (A0).lt
      obtain ⟨rcA1, rzA1⟩ := (A1).rules; have rlA1 := (A1).lt
      go_wp2_with fail
      go_ret
      exact ⟨rfl, E⟩
    · have Hs1 := Lib.hid (szR_pos hbig1)
      have hn0 : n0 ≤ 1048576 := by omega
      have hn1 : n1 ≤ 1048576 := by omega
      go_enter Try.func8, Try.ntmps8
      go_wp2_with fail
      obtain ⟨W, hW, A0, A1, -, E⟩ := two_boxes w #[Value.int .i64 pts0, .slice a0 n0 cap0] #[Value.int .i64 pts1, .slice a1 n1 cap1] 24 24
      rw [← hW.out]
      refine (laws_szPlan pts0 a0 n0 cap0 _ _ (by omega) (by omega) (by omega)).mono ?_
      rintro e w1 ⟨rfl, hb1⟩
      have A0 := A0.ext hb1
      have A1 := A1.ext hb1
      have E := ext_trans E hb1
      have q1 := hb1.size
      rw [Hs0.out]
      obtain ⟨rcA0, rzA0⟩ := (A0).rules; have rlA0 := (A0).lt
      obtain ⟨rcA1, rzA1⟩ := (A1).rules; have rlA1 := (A1).lt
      go_wp2_with fail
      refine (laws_szPlan pts1 a1 n1 cap1 _ _ (by omega) (by omega) (by omega)).mono ?_
      rintro e w2 ⟨rfl, hb2⟩
      have A0 := A0.ext hb2
      have A1 := A1.ext hb2
      have E := ext_trans E hb2
      have q2 := hb2.size
      rw [Hs1.out]
      obtain ⟨rcA0, rzA0⟩ := (A0).rules; have rlA0 := (A0).lt
      obtain ⟨rcA1, rzA1⟩ := (A1).rules; have rlA1 := (A1).lt
      go_wp2_with fail
      obtain ⟨P', hP'⟩ : ∃ P' : Pl, Hid (P' = (⟨pts0, l0⟩ : Pl).common (⟨pts1, l1⟩ : Pl)) := ⟨_, rfl⟩
      obtain ⟨b', hb'⟩ : ∃ b' : Bool, Hid (b' = (⟨pts0, l0⟩ : Pl).commonOk (⟨pts1, l1⟩ : Pl)) := ⟨_, rfl⟩
      have hlp0 : l0.length ≤ 1048576 := by have := HL0.out; omega
      have hlp1 : l1.length ≤ 1048576 := by have := HL1.out; omega
      have hlsum : l0.length + l1.length ≤ 1048576 := by have := HL0.out; have := HL1.out; omega
      have hPl : P'.bs.length ≤ 2000000 := by rw [hP'.out]; exact common_len2 _ _
      go_cut [6, 7] (fun v6 v7 wx => OutPlanB w2 P' b' v6 v7 wx)
      case first =>
        have E0 := E
        refine wp_region_held_drew (S := fun w' => w'.cell? ⟨w.heap.size, 0, none⟩ = some (Value.int .i64 pts0) ∧ w'.cell? ⟨w.heap.size, 1, none⟩ = some (Value.slice a0 n0 cap0) ∧ w'.cell? ⟨w.heap.size + 1, 0, none⟩ = some (Value.int .i64 pts1) ∧ w'.cell? ⟨w.heap.size + 1, 1, none⟩ = some (Value.slice a1 n1 cap1)) (by kernel_rfl) ?_ (fun hHeld => ?_)
        · exact ⟨(A0.drew).cell0 rfl, (A0.drew).cell0 rfl, (A1.drew).cell0 rfl, (A1.drew).cell0 rfl⟩
        have E := ext_drew (ext_refl w2)
        obtain ⟨D, hD⟩ : ∃ D, Hid (D = w2.drew) := ⟨_, rfl⟩
        rw [← hD.out] at E hHeld ⊢
        try simp only [Act.put, List.setIfInBounds_toArray, List.set_cons_zero, List.set_cons_succ]
        refine wpAnyH_take (i := 0) (v := ?_) rfl (by kernel_rfl) (by kernel_rfl) (by kernel_rfl) (fun _ _ _ h => h) (Or.inl ⟨by rfl, fun w' hS' => ?_⟩) (by assumption) ?_
        rotate_left
        · (try dsimp only at hS'); go_simp; (try rw [if_pos (by omega)]); try with_reducible rfl
        try simp only [Act.put, List.getElem_toArray, List.getElem_cons_zero, List.getElem_cons_succ, List.setIfInBounds_toArray, List.set_cons_zero, List.set_cons_succ]
        refine wpAnyH_take (i := 2) (v := ?_) rfl (by kernel_rfl) (by kernel_rfl) (by kernel_rfl) (fun _ _ _ h => h) (Or.inl ⟨by rfl, fun w' hS' => ?_⟩) (by assumption) ?_
        rotate_left
        · (try dsimp only at hS'); go_simp; (try rw [if_pos (by omega)]); try with_reducible rfl
        try simp only [Act.put, List.getElem_toArray, List.getElem_cons_zero, List.getElem_cons_succ, List.setIfInBounds_toArray, List.set_cons_zero, List.set_cons_succ]
        refine wpAnyH_ready (rs := [1, 8]) (by kernel_rfl) (by simp) ?_
        refine AllReadyH.cons rfl (fun K' hK => ?_) (AllReadyH.cons rfl (fun K' hK => ?_) AllReadyH.nil)
        · refine if_yes (by rfl) ?_
          try simp only [Act.put, List.setIfInBounds_toArray, List.set_cons_zero, List.set_cons_succ]
          go_simp
          refine (laws_toPlan pts0 a0 n0 cap0 l0 _ (H0.out.ext (ext_trans E0 E)) (by omega)).mono ?_
          rintro e u1x ⟨r0, rfl, hr0, hb⟩
          have E := ext_trans E hb
          clear hb
          go_wp2_with fail
          refine hK.out _ _ ?_ (fun hHeld => ?_)
          · exact ⟨(A0.ext E).cell0 rfl, (A0.ext E).cell0 rfl, (A1.ext E).cell0 rfl, (A1.ext E).cell0 rfl⟩
          clear hK K'
          try simp only [Act.put, List.setIfInBounds_toArray, List.set_cons_zero, List.set_cons_succ]
          refine wpAnyH_ready (rs := [3, 8]) (by kernel_rfl) (by simp) ?_
          refine AllReadyH.cons rfl (fun K' hK => ?_) (AllReadyH.cons rfl (fun K' hK => ?_) AllReadyH.nil)
          · refine if_yes (by rfl) ?_
            try simp only [Act.put, List.setIfInBounds_toArray, List.set_cons_zero, List.set_cons_succ]
            go_simp
            refine (laws_toPlan pts1 a1 n1 cap1 l1 _ (H1.out.ext (ext_trans E0 E)) (by omega)).mono ?_
            rintro e u2x ⟨r1, rfl, hr1, hb⟩
            have E := ext_trans E hb
            have hr0 := hr0.ext hb
            clear hb
            go_wp2_with fail
            refine hK.out _ _ ?_ (fun hHeld => ?_)
            · exact ⟨(A0.ext E).cell0 rfl, (A0.ext E).cell0 rfl, (A1.ext E).cell0 rfl, (A1.ext E).cell0 rfl⟩
            clear hK K'
            try simp only [Act.put, List.setIfInBounds_toArray, List.set_cons_zero, List.set_cons_succ]
            refine wpAnyH_ready (rs := [4, 8]) (by kernel_rfl) (by simp) ?_
            refine AllReadyH.cons rfl (fun K' hK => ?_) (AllReadyH.cons rfl (fun K' hK => ?_) AllReadyH.nil)
            · refine if_yes (by rfl) ?_
              try simp only [Act.put, List.setIfInBounds_toArray, List.set_cons_zero, List.set_cons_succ]
              go_simp
              refine (spec_CommonOf (⟨pts0, l0⟩ : Pl) (⟨pts1, l1⟩ : Pl) _ _ _ (hr0.base (Nat.zero_le _)) (hr1.base (Nat.zero_le _))).mono ?_
              rintro e u3x ⟨rw, rfl, hrow, hb⟩
              rw [← hP'.out] at hrow ⊢
              rw [← hb'.out]
              have hrow := hrow.base E.size
              have E := ext_trans E hb
              clear hb
              obtain ⟨aw, cw, rfl, -⟩ := hrow.open
              go_wp2_with fail
              refine hK.out _ _ ?_ (fun hHeld => ?_)
              · exact ⟨(A0.ext E).cell0 rfl, (A0.ext E).cell0 rfl, (A1.ext E).cell0 rfl, (A1.ext E).cell0 rfl⟩
              clear hK K'
              try simp only [Act.put, List.setIfInBounds_toArray, List.set_cons_zero, List.set_cons_succ]
              refine wpAnyH_take (i := 5) (v := ?_) rfl (by kernel_rfl) (by kernel_rfl) (by kernel_rfl) (fun _ _ _ h => h) (Or.inl ⟨by rfl, fun w' hS' => ?_⟩) (by assumption) ?_
              rotate_left
              · (try dsimp only at hS'); go_simp; (try rw [if_pos (by omega)]); try with_reducible rfl
              try simp only [Act.put, List.getElem_toArray, List.getElem_cons_zero, List.getElem_cons_succ, List.setIfInBounds_toArray, List.set_cons_zero, List.set_cons_succ]
              refine wpAnyH_take (i := 6) (v := ?_) rfl (by kernel_rfl) (by kernel_rfl) (by kernel_rfl) (fun _ _ _ h => h) (Or.inl ⟨by rfl, fun w' hS' => ?_⟩) (by assumption) ?_
              rotate_left
              · (try dsimp only at hS'); go_simp; (try rw [if_pos (by omega)]); try with_reducible rfl
              try simp only [Act.put, List.getElem_toArray, List.getElem_cons_zero, List.getElem_cons_succ, List.setIfInBounds_toArray, List.set_cons_zero, List.set_cons_succ]
              refine wpAnyH_take (i := 7) (v := ?_) rfl (by kernel_rfl) (by kernel_rfl) (by kernel_rfl) (fun _ _ _ h => h) (Or.inl ⟨by rfl, fun w' hS' => ?_⟩) (by assumption) ?_
              rotate_left
              · (try dsimp only at hS'); go_simp; (try rw [if_pos (by omega)]); try with_reducible rfl
              try simp only [Act.put, List.getElem_toArray, List.getElem_cons_zero, List.getElem_cons_succ, List.setIfInBounds_toArray, List.set_cons_zero, List.set_cons_succ]
              refine wpAnyH_ready (rs := [8]) (by kernel_rfl) (by simp) ?_
              refine AllReadyH.cons rfl (fun K' hK => ?_) AllReadyH.nil
              refine if_yes (by rfl) ?_
              try simp only [Act.put, List.setIfInBounds_toArray, List.set_cons_zero, List.set_cons_succ]
              go_simp
              have hgow : w2.heap.size ≤ u3x.heap.size := E.size
              have Bo := Box.new u3x 29 #[.int .i64 0, .slice none 0 0]
              have E := ext_alloc E (.cells #[.int .i64 0, .slice none 0 0] 29)
              obtain ⟨u4x, hu4x⟩ : ∃ u4x, Hid (u4x = u3x.alloc (.cells #[.int .i64 0, .slice none 0 0] 29)) := ⟨_, rfl⟩
              rw [← hu4x.out] at Bo E ⊢
              have hrow := hrow.alloc (.cells #[.int .i64 0, .slice none 0 0] 29)
              rw [← hu4x.out] at hrow
              refine hK.out _ _ ?_ (fun hHeld => ?_)
              · exact ⟨(A0.ext E).cell0 rfl, (A0.ext E).cell0 rfl, (A1.ext E).cell0 rfl, (A1.ext E).cell0 rfl⟩
              clear hK K'
              try simp only [Act.put, List.setIfInBounds_toArray, List.set_cons_zero, List.set_cons_succ]
              obtain ⟨rco, rzo⟩ := (Bo).rules; have rlo := (Bo).lt
              refine wpAnyH_ready (rs := [9]) (by kernel_rfl) (by simp) ?_
              refine AllReadyH.cons rfl (fun K' hK => ?_) AllReadyH.nil
              refine if_yes (by rfl) ?_
              go_simp
              have E := ext_set (ext_set E (p := ⟨u3x.heap.size, 0, none⟩) hgow (.int .i64 P'.pts)) (p := ⟨u3x.heap.size, 1, none⟩) hgow (.slice aw P'.bs.length cw)
              have hrow := own_far hrow (grown_set (i := 1) (grown_set (i := 0) (World.grownBy.refl _ (some (u3x.heap.size))) (.int .i64 P'.pts)) (.slice aw P'.bs.length cw)) (fun k hk e => own_not_box hrow Bo (by rw [hk]; exact e))
              have Bo := (Bo.set 0 (.int .i64 P'.pts)).set 1 (.slice aw P'.bs.length cw)
              refine hK.out _ _ ?_ (fun hHeld => ?_)
              · exact ⟨(A0.ext E).cell0 rfl, (A0.ext E).cell0 rfl, (A1.ext E).cell0 rfl, (A1.ext E).cell0 rfl⟩
              clear hK K'
              try simp only [Act.put, List.setIfInBounds_toArray, List.set_cons_zero, List.set_cons_succ]
              refine wpAnyH_ready (rs := [10]) (by kernel_rfl) (by simp) ?_
              refine AllReadyH.cons rfl (fun K' hK => ?_) AllReadyH.nil
              refine if_yes (by rfl) ?_
              go_simp
              refine hK.out _ _ ?_ (fun hHeld => ?_)
              · exact ⟨(A0.ext E).cell0 rfl, (A0.ext E).cell0 rfl, (A1.ext E).cell0 rfl, (A1.ext E).cell0 rfl⟩
              clear hK K'
              try simp only [Act.put, List.setIfInBounds_toArray, List.set_cons_zero, List.set_cons_succ]
              refine wpAnyH_done (by kernel_rfl) ?_ _
              try simp only [Act.put, List.setIfInBounds_toArray, List.set_cons_zero, List.set_cons_succ]
              go_wp2_with fail
              go_meet
              exact ⟨u3x.heap.size, .slice aw P'.bs.length cw, rfl, rfl, Bo, hrow, hgow, E⟩
            · refine if_yes (by rfl) ?_
              try simp only [Act.put, List.setIfInBounds_toArray, List.set_cons_zero, List.set_cons_succ]
              go_simp
              have hgow : w2.heap.size ≤ u2x.heap.size := E.size
              have Bo := Box.new u2x 29 #[.int .i64 0, .slice none 0 0]
              have E := ext_alloc E (.cells #[.int .i64 0, .slice none 0 0] 29)
              obtain ⟨u5x, hu5x⟩ : ∃ u5x, Hid (u5x = u2x.alloc (.cells #[.int .i64 0, .slice none 0 0] 29)) := ⟨_, rfl⟩
              rw [← hu5x.out] at Bo E ⊢
              have hr0 := hr0.alloc (.cells #[.int .i64 0, .slice none 0 0] 29)
              rw [← hu5x.out] at hr0
              have hr1 := hr1.alloc (.cells #[.int .i64 0, .slice none 0 0] 29)
              rw [← hu5x.out] at hr1
              refine hK.out _ _ ?_ (fun hHeld => ?_)
              · exact ⟨(A0.ext E).cell0 rfl, (A0.ext E).cell0 rfl, (A1.ext E).cell0 rfl, (A1.ext E).cell0 rfl⟩
              clear hK K'
              try simp only [Act.put, List.setIfInBounds_toArray, List.set_cons_zero, List.set_cons_succ]
              refine wpAnyH_ready (rs := [4]) (by kernel_rfl) (by simp) ?_
              refine AllReadyH.cons rfl (fun K' hK => ?_) AllReadyH.nil
              refine if_yes (by rfl) ?_
              try simp only [Act.put, List.setIfInBounds_toArray, List.set_cons_zero, List.set_cons_succ]
              go_simp
              refine (spec_CommonOf (⟨pts0, l0⟩ : Pl) (⟨pts1, l1⟩ : Pl) _ _ _ (hr0.base (Nat.zero_le _)) (hr1.base (Nat.zero_le _))).mono ?_
              rintro e u6x ⟨rw, rfl, hrow, hb⟩
              rw [← hP'.out] at hrow ⊢
              rw [← hb'.out]
              have hrow := hrow.base E.size
              have E := ext_trans E hb
              have Bo := Bo.ext hb
              clear hb
              obtain ⟨aw, cw, rfl, -⟩ := hrow.open
              go_wp2_with fail
              refine hK.out _ _ ?_ (fun hHeld => ?_)
              · exact ⟨(A0.ext E).cell0 rfl, (A0.ext E).cell0 rfl, (A1.ext E).cell0 rfl, (A1.ext E).cell0 rfl⟩
              clear hK K'
              try simp only [Act.put, List.setIfInBounds_toArray, List.set_cons_zero, List.set_cons_succ]
              refine wpAnyH_take (i := 5) (v := ?_) rfl (by kernel_rfl) (by kernel_rfl) (by kernel_rfl) (fun _ _ _ h => h) (Or.inl ⟨by rfl, fun w' hS' => ?_⟩) (by assumption) ?_
              rotate_left
              · (try dsimp only at hS'); go_simp; (try rw [if_pos (by omega)]); try with_reducible rfl
              try simp only [Act.put, List.getElem_toArray, List.getElem_cons_zero, List.getElem_cons_succ, List.setIfInBounds_toArray, List.set_cons_zero, List.set_cons_succ]
              refine wpAnyH_take (i := 6) (v := ?_) rfl (by kernel_rfl) (by kernel_rfl) (by kernel_rfl) (fun _ _ _ h => h) (Or.inl ⟨by rfl, fun w' hS' => ?_⟩) (by assumption) ?_
              rotate_left
              · (try dsimp only at hS'); go_simp; (try rw [if_pos (by omega)]); try with_reducible rfl
              try simp only [Act.put, List.getElem_toArray, List.getElem_cons_zero, List.getElem_cons_succ, List.setIfInBounds_toArray, List.set_cons_zero, List.set_cons_succ]
              refine wpAnyH_take (i := 7) (v := ?_) rfl (by kernel_rfl) (by kernel_rfl) (by kernel_rfl) (fun _ _ _ h => h) (Or.inl ⟨by rfl, fun w' hS' => ?_⟩) (by assumption) ?_
              rotate_left
              · (try dsimp only at hS'); go_simp; (try rw [if_pos (by omega)]); try with_reducible rfl
              try simp only [Act.put, List.getElem_toArray, List.getElem_cons_zero, List.getElem_cons_succ, List.setIfInBounds_toArray, List.set_cons_zero, List.set_cons_succ]
              obtain ⟨rco, rzo⟩ := (Bo).rules; have rlo := (Bo).lt
              refine wpAnyH_ready (rs := [9]) (by kernel_rfl) (by simp) ?_
              refine AllReadyH.cons rfl (fun K' hK => ?_) AllReadyH.nil
              refine if_yes (by rfl) ?_
              go_simp
              have E := ext_set (ext_set E (p := ⟨u2x.heap.size, 0, none⟩) hgow (.int .i64 P'.pts)) (p := ⟨u2x.heap.size, 1, none⟩) hgow (.slice aw P'.bs.length cw)
              have hrow := own_far hrow (grown_set (i := 1) (grown_set (i := 0) (World.grownBy.refl _ (some (u2x.heap.size))) (.int .i64 P'.pts)) (.slice aw P'.bs.length cw)) (fun k hk e => own_not_box hrow Bo (by rw [hk]; exact e))
              have Bo := (Bo.set 0 (.int .i64 P'.pts)).set 1 (.slice aw P'.bs.length cw)
              refine hK.out _ _ ?_ (fun hHeld => ?_)
              · exact ⟨(A0.ext E).cell0 rfl, (A0.ext E).cell0 rfl, (A1.ext E).cell0 rfl, (A1.ext E).cell0 rfl⟩
              clear hK K'
              try simp only [Act.put, List.setIfInBounds_toArray, List.set_cons_zero, List.set_cons_succ]
              refine wpAnyH_ready (rs := [10]) (by kernel_rfl) (by simp) ?_
              refine AllReadyH.cons rfl (fun K' hK => ?_) AllReadyH.nil
              refine if_yes (by rfl) ?_
              go_simp
              refine hK.out _ _ ?_ (fun hHeld => ?_)
              · exact ⟨(A0.ext E).cell0 rfl, (A0.ext E).cell0 rfl, (A1.ext E).cell0 rfl, (A1.ext E).cell0 rfl⟩
              clear hK K'
              try simp only [Act.put, List.setIfInBounds_toArray, List.set_cons_zero, List.set_cons_succ]
              refine wpAnyH_done (by kernel_rfl) ?_ _
              try simp only [Act.put, List.setIfInBounds_toArray, List.set_cons_zero, List.set_cons_succ]
              go_wp2_with fail
              go_meet
              exact ⟨u2x.heap.size, .slice aw P'.bs.length cw, rfl, rfl, Bo, hrow, hgow, E⟩
          · refine if_yes (by rfl) ?_
            try simp only [Act.put, List.setIfInBounds_toArray, List.set_cons_zero, List.set_cons_succ]
            go_simp
            have hgow : w2.heap.size ≤ u1x.heap.size := E.size
            have Bo := Box.new u1x 29 #[.int .i64 0, .slice none 0 0]
            have E := ext_alloc E (.cells #[.int .i64 0, .slice none 0 0] 29)
            obtain ⟨u7x, hu7x⟩ : ∃ u7x, Hid (u7x = u1x.alloc (.cells #[.int .i64 0, .slice none 0 0] 29)) := ⟨_, rfl⟩
            rw [← hu7x.out] at Bo E ⊢
            have hr0 := hr0.alloc (.cells #[.int .i64 0, .slice none 0 0] 29)
            rw [← hu7x.out] at hr0
            refine hK.out _ _ ?_ (fun hHeld => ?_)
            · exact ⟨(A0.ext E).cell0 rfl, (A0.ext E).cell0 rfl, (A1.ext E).cell0 rfl, (A1.ext E).cell0 rfl⟩
            clear hK K'
            try simp only [Act.put, List.setIfInBounds_toArray, List.set_cons_zero, List.set_cons_succ]
            refine wpAnyH_ready (rs := [3]) (by kernel_rfl) (by simp) ?_
            refine AllReadyH.cons rfl (fun K' hK => ?_) AllReadyH.nil
            refine if_yes (by rfl) ?_
            try simp only [Act.put, List.setIfInBounds_toArray, List.set_cons_zero, List.set_cons_succ]
            go_simp
            refine (laws_toPlan pts1 a1 n1 cap1 l1 _ (H1.out.ext (ext_trans E0 E)) (by omega)).mono ?_
            rintro e u8x ⟨r1, rfl, hr1, hb⟩
            have E := ext_trans E hb
            have hr0 := hr0.ext hb
            have Bo := Bo.ext hb
            clear hb
            go_wp2_with fail
            refine hK.out _ _ ?_ (fun hHeld => ?_)
            · exact ⟨(A0.ext E).cell0 rfl, (A0.ext E).cell0 rfl, (A1.ext E).cell0 rfl, (A1.ext E).cell0 rfl⟩
            clear hK K'
            try simp only [Act.put, List.setIfInBounds_toArray, List.set_cons_zero, List.set_cons_succ]
            refine wpAnyH_ready (rs := [4]) (by kernel_rfl) (by simp) ?_
            refine AllReadyH.cons rfl (fun K' hK => ?_) AllReadyH.nil
            refine if_yes (by rfl) ?_
            try simp only [Act.put, List.setIfInBounds_toArray, List.set_cons_zero, List.set_cons_succ]
            go_simp
            refine (spec_CommonOf (⟨pts0, l0⟩ : Pl) (⟨pts1, l1⟩ : Pl) _ _ _ (hr0.base (Nat.zero_le _)) (hr1.base (Nat.zero_le _))).mono ?_
            rintro e u9x ⟨rw, rfl, hrow, hb⟩
            rw [← hP'.out] at hrow ⊢
            rw [← hb'.out]
            have hrow := hrow.base E.size
            have E := ext_trans E hb
            have Bo := Bo.ext hb
            clear hb
            obtain ⟨aw, cw, rfl, -⟩ := hrow.open
            go_wp2_with fail
            refine hK.out _ _ ?_ (fun hHeld => ?_)
            · exact ⟨(A0.ext E).cell0 rfl, (A0.ext E).cell0 rfl, (A1.ext E).cell0 rfl, (A1.ext E).cell0 rfl⟩
            clear hK K'
            try simp only [Act.put, List.setIfInBounds_toArray, List.set_cons_zero, List.set_cons_succ]
            refine wpAnyH_take (i := 5) (v := ?_) rfl (by kernel_rfl) (by kernel_rfl) (by kernel_rfl) (fun _ _ _ h => h) (Or.inl ⟨by rfl, fun w' hS' => ?_⟩) (by assumption) ?_
            rotate_left
            · (try dsimp only at hS'); go_simp; (try rw [if_pos (by omega)]); try with_reducible rfl
            try simp only [Act.put, List.getElem_toArray, List.getElem_cons_zero, List.getElem_cons_succ, List.setIfInBounds_toArray, List.set_cons_zero, List.set_cons_succ]
            refine wpAnyH_take (i := 6) (v := ?_) rfl (by kernel_rfl) (by kernel_rfl) (by kernel_rfl) (fun _ _ _ h => h) (Or.inl ⟨by rfl, fun w' hS' => ?_⟩) (by assumption) ?_
            rotate_left
            · (try dsimp only at hS'); go_simp; (try rw [if_pos (by omega)]); try with_reducible rfl
            try simp only [Act.put, List.getElem_toArray, List.getElem_cons_zero, List.getElem_cons_succ, List.setIfInBounds_toArray, List.set_cons_zero, List.set_cons_succ]
            refine wpAnyH_take (i := 7) (v := ?_) rfl (by kernel_rfl) (by kernel_rfl) (by kernel_rfl) (fun _ _ _ h => h) (Or.inl ⟨by rfl, fun w' hS' => ?_⟩) (by assumption) ?_
            rotate_left
            · (try dsimp only at hS'); go_simp; (try rw [if_pos (by omega)]); try with_reducible rfl
            try simp only [Act.put, List.getElem_toArray, List.getElem_cons_zero, List.getElem_cons_succ, List.setIfInBounds_toArray, List.set_cons_zero, List.set_cons_succ]
            obtain ⟨rco, rzo⟩ := (Bo).rules; have rlo := (Bo).lt
            refine wpAnyH_ready (rs := [9]) (by kernel_rfl) (by simp) ?_
            refine AllReadyH.cons rfl (fun K' hK => ?_) AllReadyH.nil
            refine if_yes (by rfl) ?_
            go_simp
            have E := ext_set (ext_set E (p := ⟨u1x.heap.size, 0, none⟩) hgow (.int .i64 P'.pts)) (p := ⟨u1x.heap.size, 1, none⟩) hgow (.slice aw P'.bs.length cw)
            have hrow := own_far hrow (grown_set (i := 1) (grown_set (i := 0) (World.grownBy.refl _ (some (u1x.heap.size))) (.int .i64 P'.pts)) (.slice aw P'.bs.length cw)) (fun k hk e => own_not_box hrow Bo (by rw [hk]; exact e))
            have Bo := (Bo.set 0 (.int .i64 P'.pts)).set 1 (.slice aw P'.bs.length cw)
            refine hK.out _ _ ?_ (fun hHeld => ?_)
            · exact ⟨(A0.ext E).cell0 rfl, (A0.ext E).cell0 rfl, (A1.ext E).cell0 rfl, (A1.ext E).cell0 rfl⟩
            clear hK K'
            try simp only [Act.put, List.setIfInBounds_toArray, List.set_cons_zero, List.set_cons_succ]
            refine wpAnyH_ready (rs := [10]) (by kernel_rfl) (by simp) ?_
            refine AllReadyH.cons rfl (fun K' hK => ?_) AllReadyH.nil
            refine if_yes (by rfl) ?_
            go_simp
            refine hK.out _ _ ?_ (fun hHeld => ?_)
            · exact ⟨(A0.ext E).cell0 rfl, (A0.ext E).cell0 rfl, (A1.ext E).cell0 rfl, (A1.ext E).cell0 rfl⟩
            clear hK K'
            try simp only [Act.put, List.setIfInBounds_toArray, List.set_cons_zero, List.set_cons_succ]
            refine wpAnyH_done (by kernel_rfl) ?_ _
            try simp only [Act.put, List.setIfInBounds_toArray, List.set_cons_zero, List.set_cons_succ]
            go_wp2_with fail
            go_meet
            exact ⟨u1x.heap.size, .slice aw P'.bs.length cw, rfl, rfl, Bo, hrow, hgow, E⟩
        · refine if_yes (by rfl) ?_
          try simp only [Act.put, List.setIfInBounds_toArray, List.set_cons_zero, List.set_cons_succ]
          go_simp
          have hgow : w2.heap.size ≤ D.heap.size := E.size
          have Bo := Box.new D 29 #[.int .i64 0, .slice none 0 0]
          have E := ext_alloc E (.cells #[.int .i64 0, .slice none 0 0] 29)
          obtain ⟨u10x, hu10x⟩ : ∃ u10x, Hid (u10x = D.alloc (.cells #[.int .i64 0, .slice none 0 0] 29)) := ⟨_, rfl⟩
          rw [← hu10x.out] at Bo E ⊢
          refine hK.out _ _ ?_ (fun hHeld => ?_)
          · exact ⟨(A0.ext E).cell0 rfl, (A0.ext E).cell0 rfl, (A1.ext E).cell0 rfl, (A1.ext E).cell0 rfl⟩
          clear hK K'
          try simp only [Act.put, List.setIfInBounds_toArray, List.set_cons_zero, List.set_cons_succ]
          refine wpAnyH_ready (rs := [1]) (by kernel_rfl) (by simp) ?_
          refine AllReadyH.cons rfl (fun K' hK => ?_) AllReadyH.nil
          refine if_yes (by rfl) ?_
          try simp only [Act.put, List.setIfInBounds_toArray, List.set_cons_zero, List.set_cons_succ]
          go_simp
          refine (laws_toPlan pts0 a0 n0 cap0 l0 _ (H0.out.ext (ext_trans E0 E)) (by omega)).mono ?_
          rintro e u11x ⟨r0, rfl, hr0, hb⟩
          have E := ext_trans E hb
          have Bo := Bo.ext hb
          clear hb
          go_wp2_with fail
          refine hK.out _ _ ?_ (fun hHeld => ?_)
          · exact ⟨(A0.ext E).cell0 rfl, (A0.ext E).cell0 rfl, (A1.ext E).cell0 rfl, (A1.ext E).cell0 rfl⟩
          clear hK K'
          try simp only [Act.put, List.setIfInBounds_toArray, List.set_cons_zero, List.set_cons_succ]
          refine wpAnyH_ready (rs := [3]) (by kernel_rfl) (by simp) ?_
          refine AllReadyH.cons rfl (fun K' hK => ?_) AllReadyH.nil
          refine if_yes (by rfl) ?_
          try simp only [Act.put, List.setIfInBounds_toArray, List.set_cons_zero, List.set_cons_succ]
          go_simp
          refine (laws_toPlan pts1 a1 n1 cap1 l1 _ (H1.out.ext (ext_trans E0 E)) (by omega)).mono ?_
          rintro e u12x ⟨r1, rfl, hr1, hb⟩
          have E := ext_trans E hb
          have hr0 := hr0.ext hb
          have Bo := Bo.ext hb
          clear hb
          go_wp2_with fail
          refine hK.out _ _ ?_ (fun hHeld => ?_)
          · exact ⟨(A0.ext E).cell0 rfl, (A0.ext E).cell0 rfl, (A1.ext E).cell0 rfl, (A1.ext E).cell0 rfl⟩
          clear hK K'
          try simp only [Act.put, List.setIfInBounds_toArray, List.set_cons_zero, List.set_cons_succ]
          refine wpAnyH_ready (rs := [4]) (by kernel_rfl) (by simp) ?_
          refine AllReadyH.cons rfl (fun K' hK => ?_) AllReadyH.nil
          refine if_yes (by rfl) ?_
          try simp only [Act.put, List.setIfInBounds_toArray, List.set_cons_zero, List.set_cons_succ]
          go_simp
          refine (spec_CommonOf (⟨pts0, l0⟩ : Pl) (⟨pts1, l1⟩ : Pl) _ _ _ (hr0.base (Nat.zero_le _)) (hr1.base (Nat.zero_le _))).mono ?_
          rintro e u13x ⟨rw, rfl, hrow, hb⟩
          rw [← hP'.out] at hrow ⊢
          rw [← hb'.out]
          have hrow := hrow.base E.size
          have E := ext_trans E hb
          have Bo := Bo.ext hb
          clear hb
          obtain ⟨aw, cw, rfl, -⟩ := hrow.open
          go_wp2_with fail
          refine hK.out _ _ ?_ (fun hHeld => ?_)
          · exact ⟨(A0.ext E).cell0 rfl, (A0.ext E).cell0 rfl, (A1.ext E).cell0 rfl, (A1.ext E).cell0 rfl⟩
          clear hK K'
          try simp only [Act.put, List.setIfInBounds_toArray, List.set_cons_zero, List.set_cons_succ]
          refine wpAnyH_take (i := 5) (v := ?_) rfl (by kernel_rfl) (by kernel_rfl) (by kernel_rfl) (fun _ _ _ h => h) (Or.inl ⟨by rfl, fun w' hS' => ?_⟩) (by assumption) ?_
          rotate_left
          · (try dsimp only at hS'); go_simp; (try rw [if_pos (by omega)]); try with_reducible rfl
          try simp only [Act.put, List.getElem_toArray, List.getElem_cons_zero, List.getElem_cons_succ, List.setIfInBounds_toArray, List.set_cons_zero, List.set_cons_succ]
          refine wpAnyH_take (i := 6) (v := ?_) rfl (by kernel_rfl) (by kernel_rfl) (by kernel_rfl) (fun _ _ _ h => h) (Or.inl ⟨by rfl, fun w' hS' => ?_⟩) (by assumption) ?_
          rotate_left
          · (try dsimp only at hS'); go_simp; (try rw [if_pos (by omega)]); try with_reducible rfl
          try simp only [Act.put, List.getElem_toArray, List.getElem_cons_zero, List.getElem_cons_succ, List.setIfInBounds_toArray, List.set_cons_zero, List.set_cons_succ]
          refine wpAnyH_take (i := 7) (v := ?_) rfl (by kernel_rfl) (by kernel_rfl) (by kernel_rfl) (fun _ _ _ h => h) (Or.inl ⟨by rfl, fun w' hS' => ?_⟩) (by assumption) ?_
          rotate_left
          · (try dsimp only at hS'); go_simp; (try rw [if_pos (by omega)]); try with_reducible rfl
          try simp only [Act.put, List.getElem_toArray, List.getElem_cons_zero, List.getElem_cons_succ, List.setIfInBounds_toArray, List.set_cons_zero, List.set_cons_succ]
          obtain ⟨rco, rzo⟩ := (Bo).rules; have rlo := (Bo).lt
          refine wpAnyH_ready (rs := [9]) (by kernel_rfl) (by simp) ?_
          refine AllReadyH.cons rfl (fun K' hK => ?_) AllReadyH.nil
          refine if_yes (by rfl) ?_
          go_simp
          have E := ext_set (ext_set E (p := ⟨D.heap.size, 0, none⟩) hgow (.int .i64 P'.pts)) (p := ⟨D.heap.size, 1, none⟩) hgow (.slice aw P'.bs.length cw)
          have hrow := own_far hrow (grown_set (i := 1) (grown_set (i := 0) (World.grownBy.refl _ (some (D.heap.size))) (.int .i64 P'.pts)) (.slice aw P'.bs.length cw)) (fun k hk e => own_not_box hrow Bo (by rw [hk]; exact e))
          have Bo := (Bo.set 0 (.int .i64 P'.pts)).set 1 (.slice aw P'.bs.length cw)
          refine hK.out _ _ ?_ (fun hHeld => ?_)
          · exact ⟨(A0.ext E).cell0 rfl, (A0.ext E).cell0 rfl, (A1.ext E).cell0 rfl, (A1.ext E).cell0 rfl⟩
          clear hK K'
          try simp only [Act.put, List.setIfInBounds_toArray, List.set_cons_zero, List.set_cons_succ]
          refine wpAnyH_ready (rs := [10]) (by kernel_rfl) (by simp) ?_
          refine AllReadyH.cons rfl (fun K' hK => ?_) AllReadyH.nil
          refine if_yes (by rfl) ?_
          go_simp
          refine hK.out _ _ ?_ (fun hHeld => ?_)
          · exact ⟨(A0.ext E).cell0 rfl, (A0.ext E).cell0 rfl, (A1.ext E).cell0 rfl, (A1.ext E).cell0 rfl⟩
          clear hK K'
          try simp only [Act.put, List.setIfInBounds_toArray, List.set_cons_zero, List.set_cons_succ]
          refine wpAnyH_done (by kernel_rfl) ?_ _
          try simp only [Act.put, List.setIfInBounds_toArray, List.set_cons_zero, List.set_cons_succ]
          go_wp2_with fail
          go_meet
          exact ⟨D.heap.size, .slice aw P'.bs.length cw, rfl, rfl, Bo, hrow, hgow, E⟩
      rename World => w3
      obtain ⟨gow, sw, rfl, rfl, Bw, hsw, hgow, hb3⟩ := hcut
      obtain ⟨aw, cw, rfl, -⟩ := hsw.open
      have Bhsw := Lib.hid hsw.lt
      have A0 := A0.ext hb3
      have A1 := A1.ext hb3
      have E := ext_trans E hb3
      have q3 := hb3.size
      obtain ⟨rcA0, rzA0⟩ := (A0).rules; have rlA0 := (A0).lt
      obtain ⟨rcA1, rzA1⟩ := (A1).rules; have rlA1 := (A1).lt
      obtain ⟨rcBw, rzBw⟩ := (Bw).rules; have rlBw := (Bw).lt
      go_wp2_with fail
      refine (laws_toPlan pts0 a0 n0 cap0 l0 _ (H0.out.ext (E)) (by omega)).mono ?_
      rintro e w4 ⟨sx0, rfl, hsx0, hb4⟩
      have Br := hsx0.lt
      try simp only [World.size_alloc] at Br
      have Bhsx0 := Lib.hid Br
      clear Br
      have A0 := A0.ext hb4
      have A1 := A1.ext hb4
      have Bw := Bw.ext hb4
      have hsw := hsw.ext hb4
      have E := ext_trans E hb4
      have q4 := hb4.size
      obtain ⟨ax0, cx0, rfl, -⟩ := hsx0.open
      obtain ⟨rcA0, rzA0⟩ := (A0).rules; have rlA0 := (A0).lt
      obtain ⟨rcA1, rzA1⟩ := (A1).rules; have rlA1 := (A1).lt
      obtain ⟨rcBw, rzBw⟩ := (Bw).rules; have rlBw := (Bw).lt
      go_wp2_with fail
      refine (laws_toPlan pts1 a1 n1 cap1 l1 _ (H1.out.ext (ext_alloc E _)) (by omega)).mono ?_
      rintro e w5 ⟨sx1, rfl, hsx1, hb5⟩
      have Br := hsx1.lt
      try simp only [World.size_alloc] at Br
      have Bhsx1 := Lib.hid Br
      clear Br
      have A0 := (A0.alloc _).ext hb5
      have A1 := (A1.alloc _).ext hb5
      have Bw := (Bw.alloc _).ext hb5
      have X0 := (Box.new _ _ _).ext hb5
      have hsw := (hsw.alloc _).ext hb5
      have hsx0 := (hsx0.alloc _).ext hb5
      have E := ext_trans (ext_alloc E _) hb5
      have q5 := hb5.size
      simp only [World.size_alloc] at q5
      obtain ⟨ax1, cx1, rfl, -⟩ := hsx1.open
      obtain ⟨rcA0, rzA0⟩ := (A0).rules; have rlA0 := (A0).lt
      obtain ⟨rcA1, rzA1⟩ := (A1).rules; have rlA1 := (A1).lt
      obtain ⟨rcBw, rzBw⟩ := (Bw).rules; have rlBw := (Bw).lt
      obtain ⟨rcX0, rzX0⟩ := (X0).rules; have rlX0 := (X0).lt
      go_wp2_with fail
      refine (impl_CommonOf (⟨pts0, l0⟩ : Pl) (⟨pts1, l1⟩ : Pl) _ _ _ ((hsx0.alloc _).base (Nat.zero_le _)) ((hsx1.alloc _).base (Nat.zero_le _))).mono ?_
      rintro e w6 ⟨sg, rfl, hsg, hb6⟩
      have Br := hsg.lt
      try simp only [World.size_alloc] at Br
      have Bhsg := Lib.hid Br
      clear Br
      have A0 := (A0.alloc _).ext hb6
      have A1 := (A1.alloc _).ext hb6
      have Bw := (Bw.alloc _).ext hb6
      have X0 := (X0.alloc _).ext hb6
      have X1 := (Box.new _ _ _).ext hb6
      have hsw := (hsw.alloc _).ext hb6
      have hsx0 := (hsx0.alloc _).ext hb6
      have hsx1 := (hsx1.alloc _).ext hb6
      have E := ext_trans (ext_alloc E _) hb6
      have q6 := hb6.size
      simp only [World.size_alloc] at q6
      rw [← hP'.out] at hsg ⊢
      rw [← hb'.out]
      obtain ⟨ag, cg, rfl, -⟩ := hsg.open
      obtain ⟨rcA0, rzA0⟩ := (A0).rules; have rlA0 := (A0).lt
      obtain ⟨rcA1, rzA1⟩ := (A1).rules; have rlA1 := (A1).lt
      obtain ⟨rcBw, rzBw⟩ := (Bw).rules; have rlBw := (Bw).lt
      obtain ⟨rcX0, rzX0⟩ := (X0).rules; have rlX0 := (X0).lt
      obtain ⟨rcX1, rzX1⟩ := (X1).rules; have rlX1 := (X1).lt
      go_wp2_with fail
      refine (laws_eqPlan P' P' _ _ _ ((hsg.alloc _).base (Nat.zero_le _)) ((hsw.alloc _).base (Nat.zero_le _))).mono ?_
      rintro e w7 ⟨rfl, hb7⟩
      have A0 := (A0.alloc _).ext hb7
      have A1 := (A1.alloc _).ext hb7
      have Bw := (Bw.alloc _).ext hb7
      have X0 := (X0.alloc _).ext hb7
      have X1 := (X1.alloc _).ext hb7
      have G := (Box.new _ _ _).ext hb7
      have hsw := (hsw.alloc _).ext hb7
      have hsx0 := (hsx0.alloc _).ext hb7
      have hsx1 := (hsx1.alloc _).ext hb7
      have hsg := (hsg.alloc _).ext hb7
      have E := ext_trans (ext_alloc E _) hb7
      have q7 := hb7.size
      simp only [World.size_alloc] at q7
      rw [decide_eq_true rfl]
      obtain ⟨rcA0, rzA0⟩ := (A0).rules; have rlA0 := (A0).lt
      obtain ⟨rcA1, rzA1⟩ := (A1).rules; have rlA1 := (A1).lt
      obtain ⟨rcBw, rzBw⟩ := (Bw).rules; have rlBw := (Bw).lt
      obtain ⟨rcX0, rzX0⟩ := (X0).rules; have rlX0 := (X0).lt
      obtain ⟨rcX1, rzX1⟩ := (X1).rules; have rlX1 := (X1).lt
      obtain ⟨rcG, rzG⟩ := (G).rules; have rlG := (G).lt
      go_wp2_with fail
      go_region_held3 (fun w' => w'.cell? ⟨w.heap.size, 0, none⟩ = some (Value.int .i64 pts0) ∧ w'.cell? ⟨w.heap.size, 1, none⟩ = some (Value.slice a0 n0 cap0) ∧ w'.cell? ⟨w4.heap.size, 0, none⟩ = some (Value.int .i64 pts0) ∧ w'.cell? ⟨w4.heap.size, 1, none⟩ = some (Value.slice ax0 l0.length cx0))
        (first | exact ⟨A0.cell0 rfl, A0.cell0 rfl, X0.cell0 rfl, X0.cell0 rfl⟩ | exact ⟨A0a.cell0 rfl, A0a.cell0 rfl, X0a.cell0 rfl, X0a.cell0 rfl⟩ | exact ⟨A0b.cell0 rfl, A0b.cell0 rfl, X0b.cell0 rfl, X0b.cell0 rfl⟩)
        (first | (go_at_call 11
                  refine (laws_toPlan pts0 a0 n0 cap0 l0 _ (H0.out.ext (ext_drew E)) (by omega)).mono ?_
                  rintro e wa8 ⟨sy, rfl, hsy, hba⟩
                  have A0a := A0.drew.ext hba
                  have X0a := X0.drew.ext hba)
               | (go_at_call 13
                  refine (laws_eqPlan (⟨pts0, l0⟩ : Pl) (⟨pts0, l0⟩ : Pl) _ _ _ ((hsx0.drew.ext hba).base (Nat.zero_le _)) (hsy.base (Nat.zero_le _))).mono ?_
                  rintro e w8 ⟨rfl, hbb⟩
                  have A0b := A0a.ext hbb
                  have X0b := X0a.ext hbb
                  have hb8 := ext_trans (ext_trans (ext_drew (ext_refl w7)) hba) hbb))
      clear A0a X0a A0b X0b hba hbb hsy
      have A0 := A0.ext hb8
      have A1 := A1.ext hb8
      have Bw := Bw.ext hb8
      have X0 := X0.ext hb8
      have X1 := X1.ext hb8
      have G := G.ext hb8
      have hsw := hsw.ext hb8
      have hsx0 := hsx0.ext hb8
      have hsx1 := hsx1.ext hb8
      have hsg := hsg.ext hb8
      have E := ext_trans E hb8
      have q8 := hb8.size
      obtain ⟨rcA0, rzA0⟩ := (A0).rules; have rlA0 := (A0).lt
      obtain ⟨rcA1, rzA1⟩ := (A1).rules; have rlA1 := (A1).lt
      obtain ⟨rcBw, rzBw⟩ := (Bw).rules; have rlBw := (Bw).lt
      obtain ⟨rcX0, rzX0⟩ := (X0).rules; have rlX0 := (X0).lt
      obtain ⟨rcX1, rzX1⟩ := (X1).rules; have rlX1 := (X1).lt
      obtain ⟨rcG, rzG⟩ := (G).rules; have rlG := (G).lt
      go_wp2_with fail
      go_region_held3 (fun w' => w'.cell? ⟨w.heap.size + 1, 0, none⟩ = some (Value.int .i64 pts1) ∧ w'.cell? ⟨w.heap.size + 1, 1, none⟩ = some (Value.slice a1 n1 cap1) ∧ w'.cell? ⟨w5.heap.size, 0, none⟩ = some (Value.int .i64 pts1) ∧ w'.cell? ⟨w5.heap.size, 1, none⟩ = some (Value.slice ax1 l1.length cx1))
        (first | exact ⟨A1.cell0 rfl, A1.cell0 rfl, X1.cell0 rfl, X1.cell0 rfl⟩ | exact ⟨A1a.cell0 rfl, A1a.cell0 rfl, X1a.cell0 rfl, X1a.cell0 rfl⟩ | exact ⟨A1b.cell0 rfl, A1b.cell0 rfl, X1b.cell0 rfl, X1b.cell0 rfl⟩)
        (first | (go_at_call 11
                  refine (laws_toPlan pts1 a1 n1 cap1 l1 _ (H1.out.ext (ext_drew E)) (by omega)).mono ?_
                  rintro e wa9 ⟨sy, rfl, hsy, hba⟩
                  have A1a := A1.drew.ext hba
                  have X1a := X1.drew.ext hba)
               | (go_at_call 13
                  refine (laws_eqPlan (⟨pts1, l1⟩ : Pl) (⟨pts1, l1⟩ : Pl) _ _ _ ((hsx1.drew.ext hba).base (Nat.zero_le _)) (hsy.base (Nat.zero_le _))).mono ?_
                  rintro e w9 ⟨rfl, hbb⟩
                  have A1b := A1a.ext hbb
                  have X1b := X1a.ext hbb
                  have hb9 := ext_trans (ext_trans (ext_drew (ext_refl w8)) hba) hbb))
      clear A1a X1a A1b X1b hba hbb hsy
      have A0 := A0.ext hb9
      have A1 := A1.ext hb9
      have Bw := Bw.ext hb9
      have X0 := X0.ext hb9
      have X1 := X1.ext hb9
      have G := G.ext hb9
      have hsw := hsw.ext hb9
      have hsx0 := hsx0.ext hb9
      have hsx1 := hsx1.ext hb9
      have hsg := hsg.ext hb9
      have E := ext_trans E hb9
      have q9 := hb9.size
      obtain ⟨rcA0, rzA0⟩ := (A0).rules; have rlA0 := (A0).lt
      obtain ⟨rcA1, rzA1⟩ := (A1).rules; have rlA1 := (A1).lt
      obtain ⟨rcBw, rzBw⟩ := (Bw).rules; have rlBw := (Bw).lt
      obtain ⟨rcX0, rzX0⟩ := (X0).rules; have rlX0 := (X0).lt
      obtain ⟨rcX1, rzX1⟩ := (X1).rules; have rlX1 := (X1).lt
      obtain ⟨rcG, rzG⟩ := (G).rules; have rlG := (G).lt
      go_wp2_with fail
      refine (laws_markPlan pts0 _ l0 _ (1) _ (hsx0) (by omega) (by omega) (by have := HL0.out; omega)).mono ?_
      rintro e w10 ⟨rfl, hsx0, hg10⟩
      have A0 := A0.grown hg10 (fun e => by have := Bhsx0.out _ e.symm; omega)
      have A1 := A1.grown hg10 (fun e => by have := Bhsx0.out _ e.symm; omega)
      have Bw := Bw.grown hg10 (fun e => by have := Bhsx0.out _ e.symm; omega)
      have X0 := X0.grown hg10 (fun e => by have := Bhsx0.out _ e.symm; omega)
      have X1 := X1.grown hg10 (fun e => by have := Bhsx0.out _ e.symm; omega)
      have G := G.grown hg10 (fun e => by have := Bhsx0.out _ e.symm; omega)
      have hsw := hsw.far hg10 (fun k hk e => by have := Bhsw.out _ hk; have := Bhsx0.out _ e; omega)
      have hsx1 := hsx1.far hg10 (fun k hk e => by have := Bhsx1.out _ hk; have := Bhsx0.out _ e; omega)
      have hsg := hsg.far hg10 (fun k hk e => by have := Bhsg.out _ hk; have := Bhsx0.out _ e; omega)
      have E := ext_grown E hg10 (fun k hk => by have := Bhsx0.out _ hk; omega)
      have q10 := hg10.size
      clear hg10
      obtain ⟨rcA0, rzA0⟩ := (A0).rules; have rlA0 := (A0).lt
      obtain ⟨rcA1, rzA1⟩ := (A1).rules; have rlA1 := (A1).lt
      obtain ⟨rcBw, rzBw⟩ := (Bw).rules; have rlBw := (Bw).lt
      obtain ⟨rcX0, rzX0⟩ := (X0).rules; have rlX0 := (X0).lt
      obtain ⟨rcX1, rzX1⟩ := (X1).rules; have rlX1 := (X1).lt
      obtain ⟨rcG, rzG⟩ := (G).rules; have rlG := (G).lt
      go_wp2_with fail
      refine (laws_markPlan pts1 _ l1 _ (1 + 3 * (l0.length : Int)) _ (hsx1) (by omega) (by omega) (by have := HL1.out; omega)).mono ?_
      rintro e w11 ⟨rfl, hsx1, hg11⟩
      have A0 := A0.grown hg11 (fun e => by have := Bhsx1.out _ e.symm; omega)
      have A1 := A1.grown hg11 (fun e => by have := Bhsx1.out _ e.symm; omega)
      have Bw := Bw.grown hg11 (fun e => by have := Bhsx1.out _ e.symm; omega)
      have X0 := X0.grown hg11 (fun e => by have := Bhsx1.out _ e.symm; omega)
      have X1 := X1.grown hg11 (fun e => by have := Bhsx1.out _ e.symm; omega)
      have G := G.grown hg11 (fun e => by have := Bhsx1.out _ e.symm; omega)
      have hsw := hsw.far hg11 (fun k hk e => by have := Bhsw.out _ hk; have := Bhsx1.out _ e; omega)
      have hsx0 := hsx0.far hg11 (fun k hk e => by have := Bhsx0.out _ hk; have := Bhsx1.out _ e; omega)
      have hsg := hsg.far hg11 (fun k hk e => by have := Bhsg.out _ hk; have := Bhsx1.out _ e; omega)
      have E := ext_grown E hg11 (fun k hk => by have := Bhsx1.out _ hk; omega)
      have q11 := hg11.size
      clear hg11
      obtain ⟨rcA0, rzA0⟩ := (A0).rules; have rlA0 := (A0).lt
      obtain ⟨rcA1, rzA1⟩ := (A1).rules; have rlA1 := (A1).lt
      obtain ⟨rcBw, rzBw⟩ := (Bw).rules; have rlBw := (Bw).lt
      obtain ⟨rcX0, rzX0⟩ := (X0).rules; have rlX0 := (X0).lt
      obtain ⟨rcX1, rzX1⟩ := (X1).rules; have rlX1 := (X1).lt
      obtain ⟨rcG, rzG⟩ := (G).rules; have rlG := (G).lt
      go_wp2_with fail
      refine (laws_eqPlan P' P' _ _ _ ((hsg).base (Nat.zero_le _)) ((hsw).base (Nat.zero_le _))).mono ?_
      rintro e w12 ⟨rfl, hb12⟩
      have A0 := A0.ext hb12
      have A1 := A1.ext hb12
      have Bw := Bw.ext hb12
      have X0 := X0.ext hb12
      have X1 := X1.ext hb12
      have G := G.ext hb12
      have hsw := hsw.ext hb12
      have hsx0 := hsx0.ext hb12
      have hsx1 := hsx1.ext hb12
      have hsg := hsg.ext hb12
      have E := ext_trans E hb12
      have q12 := hb12.size
      rw [decide_eq_true rfl]
      obtain ⟨rcA0, rzA0⟩ := (A0).rules; have rlA0 := (A0).lt
      obtain ⟨rcA1, rzA1⟩ := (A1).rules; have rlA1 := (A1).lt
      obtain ⟨rcBw, rzBw⟩ := (Bw).rules; have rlBw := (Bw).lt
      obtain ⟨rcX0, rzX0⟩ := (X0).rules; have rlX0 := (X0).lt
      obtain ⟨rcX1, rzX1⟩ := (X1).rules; have rlX1 := (X1).lt
      obtain ⟨rcG, rzG⟩ := (G).rules; have rlG := (G).lt
      go_wp2_with fail
      refine (laws_markPlan P'.pts _ P'.bs _ 1 _ hsg (by omega) (by omega) (by omega)).mono ?_
      rintro e w13 ⟨rfl, hsg, hg13⟩
      have A0 := A0.grown hg13 (fun e => by have := Bhsg.out _ e.symm; omega)
      have A1 := A1.grown hg13 (fun e => by have := Bhsg.out _ e.symm; omega)
      have Bw := Bw.grown hg13 (fun e => by have := Bhsg.out _ e.symm; omega)
      have X0 := X0.grown hg13 (fun e => by have := Bhsg.out _ e.symm; omega)
      have X1 := X1.grown hg13 (fun e => by have := Bhsg.out _ e.symm; omega)
      have G := G.grown hg13 (fun e => by have := Bhsg.out _ e.symm; omega)
      have hsw := hsw.far hg13 (fun k hk e => by have := Bhsw.out _ hk; have := Bhsg.out _ e; omega)
      have hsx0 := hsx0.far hg13 (fun k hk e => by have := Bhsx0.out _ hk; have := Bhsg.out _ e; omega)
      have hsx1 := hsx1.far hg13 (fun k hk e => by have := Bhsx1.out _ hk; have := Bhsg.out _ e; omega)
      have E := ext_grown E hg13 (fun k hk => by have := Bhsg.out _ hk; omega)
      have q13 := hg13.size
      clear hg13
      obtain ⟨rcA0, rzA0⟩ := (A0).rules; have rlA0 := (A0).lt
      obtain ⟨rcA1, rzA1⟩ := (A1).rules; have rlA1 := (A1).lt
      obtain ⟨rcBw, rzBw⟩ := (Bw).rules; have rlBw := (Bw).lt
      obtain ⟨rcX0, rzX0⟩ := (X0).rules; have rlX0 := (X0).lt
      obtain ⟨rcX1, rzX1⟩ := (X1).rules; have rlX1 := (X1).lt
      obtain ⟨rcG, rzG⟩ := (G).rules; have rlG := (G).lt
      go_wp2_with fail
      refine (laws_heldPlan P'.pts _ P'.bs.length 1 _ (hsg.base (Nat.zero_le _)) (by omega) (by omega) (by omega)).mono ?_
      rintro e w14 ⟨rfl, hb14⟩
      have A0 := A0.ext hb14
      have A1 := A1.ext hb14
      have Bw := Bw.ext hb14
      have X0 := X0.ext hb14
      have X1 := X1.ext hb14
      have G := G.ext hb14
      have hsw := hsw.ext hb14
      have hsx0 := hsx0.ext hb14
      have hsx1 := hsx1.ext hb14
      have hsg := hsg.ext hb14
      have E := ext_trans E hb14
      have q14 := hb14.size
      obtain ⟨rcA0, rzA0⟩ := (A0).rules; have rlA0 := (A0).lt
      obtain ⟨rcA1, rzA1⟩ := (A1).rules; have rlA1 := (A1).lt
      obtain ⟨rcBw, rzBw⟩ := (Bw).rules; have rlBw := (Bw).lt
      obtain ⟨rcX0, rzX0⟩ := (X0).rules; have rlX0 := (X0).lt
      obtain ⟨rcX1, rzX1⟩ := (X1).rules; have rlX1 := (X1).lt
      obtain ⟨rcG, rzG⟩ := (G).rules; have rlG := (G).lt
      go_wp2_with fail
      go_cut [15, 16] (fun v15 v16 wx => OutPlanB w14 P' b' v15 v16 wx)
      case first =>
        have E0 := E
        refine wp_region_held_drew (S := fun w' => w'.cell? ⟨w.heap.size, 0, none⟩ = some (Value.int .i64 pts0) ∧ w'.cell? ⟨w.heap.size, 1, none⟩ = some (Value.slice a0 n0 cap0) ∧ w'.cell? ⟨w.heap.size + 1, 0, none⟩ = some (Value.int .i64 pts1) ∧ w'.cell? ⟨w.heap.size + 1, 1, none⟩ = some (Value.slice a1 n1 cap1)) (by kernel_rfl) ?_ (fun hHeld => ?_)
        · exact ⟨(A0.drew).cell0 rfl, (A0.drew).cell0 rfl, (A1.drew).cell0 rfl, (A1.drew).cell0 rfl⟩
        have E := ext_drew (ext_refl w14)
        obtain ⟨D, hD⟩ : ∃ D, Hid (D = w14.drew) := ⟨_, rfl⟩
        rw [← hD.out] at E hHeld ⊢
        try simp only [Act.put, List.setIfInBounds_toArray, List.set_cons_zero, List.set_cons_succ]
        refine wpAnyH_take (i := 0) (v := ?_) rfl (by kernel_rfl) (by kernel_rfl) (by kernel_rfl) (fun _ _ _ h => h) (Or.inl ⟨by rfl, fun w' hS' => ?_⟩) (by assumption) ?_
        rotate_left
        · (try dsimp only at hS'); go_simp; (try rw [if_pos (by omega)]); try with_reducible rfl
        try simp only [Act.put, List.getElem_toArray, List.getElem_cons_zero, List.getElem_cons_succ, List.setIfInBounds_toArray, List.set_cons_zero, List.set_cons_succ]
        refine wpAnyH_take (i := 2) (v := ?_) rfl (by kernel_rfl) (by kernel_rfl) (by kernel_rfl) (fun _ _ _ h => h) (Or.inl ⟨by rfl, fun w' hS' => ?_⟩) (by assumption) ?_
        rotate_left
        · (try dsimp only at hS'); go_simp; (try rw [if_pos (by omega)]); try with_reducible rfl
        try simp only [Act.put, List.getElem_toArray, List.getElem_cons_zero, List.getElem_cons_succ, List.setIfInBounds_toArray, List.set_cons_zero, List.set_cons_succ]
        refine wpAnyH_ready (rs := [1, 8]) (by kernel_rfl) (by simp) ?_
        refine AllReadyH.cons rfl (fun K' hK => ?_) (AllReadyH.cons rfl (fun K' hK => ?_) AllReadyH.nil)
        · refine if_yes (by rfl) ?_
          try simp only [Act.put, List.setIfInBounds_toArray, List.set_cons_zero, List.set_cons_succ]
          go_simp
          refine (laws_toPlan pts0 a0 n0 cap0 l0 _ (H0.out.ext (ext_trans E0 E)) (by omega)).mono ?_
          rintro e u1x ⟨r0, rfl, hr0, hb⟩
          have E := ext_trans E hb
          clear hb
          go_wp2_with fail
          refine hK.out _ _ ?_ (fun hHeld => ?_)
          · exact ⟨(A0.ext E).cell0 rfl, (A0.ext E).cell0 rfl, (A1.ext E).cell0 rfl, (A1.ext E).cell0 rfl⟩
          clear hK K'
          try simp only [Act.put, List.setIfInBounds_toArray, List.set_cons_zero, List.set_cons_succ]
          refine wpAnyH_ready (rs := [3, 8]) (by kernel_rfl) (by simp) ?_
          refine AllReadyH.cons rfl (fun K' hK => ?_) (AllReadyH.cons rfl (fun K' hK => ?_) AllReadyH.nil)
          · refine if_yes (by rfl) ?_
            try simp only [Act.put, List.setIfInBounds_toArray, List.set_cons_zero, List.set_cons_succ]
            go_simp
            refine (laws_toPlan pts1 a1 n1 cap1 l1 _ (H1.out.ext (ext_trans E0 E)) (by omega)).mono ?_
            rintro e u2x ⟨r1, rfl, hr1, hb⟩
            have E := ext_trans E hb
            have hr0 := hr0.ext hb
            clear hb
            go_wp2_with fail
            refine hK.out _ _ ?_ (fun hHeld => ?_)
            · exact ⟨(A0.ext E).cell0 rfl, (A0.ext E).cell0 rfl, (A1.ext E).cell0 rfl, (A1.ext E).cell0 rfl⟩
            clear hK K'
            try simp only [Act.put, List.setIfInBounds_toArray, List.set_cons_zero, List.set_cons_succ]
            refine wpAnyH_ready (rs := [4, 8]) (by kernel_rfl) (by simp) ?_
            refine AllReadyH.cons rfl (fun K' hK => ?_) (AllReadyH.cons rfl (fun K' hK => ?_) AllReadyH.nil)
            · refine if_yes (by rfl) ?_
              try simp only [Act.put, List.setIfInBounds_toArray, List.set_cons_zero, List.set_cons_succ]
              go_simp
              refine (impl_CommonOf (⟨pts0, l0⟩ : Pl) (⟨pts1, l1⟩ : Pl) _ _ _ (hr0.base (Nat.zero_le _)) (hr1.base (Nat.zero_le _))).mono ?_
              rintro e u3x ⟨rw, rfl, hrow, hb⟩
              rw [← hP'.out] at hrow ⊢
              rw [← hb'.out]
              have hrow := hrow.base E.size
              have E := ext_trans E hb
              clear hb
              obtain ⟨aw, cw, rfl, -⟩ := hrow.open
              go_wp2_with fail
              refine hK.out _ _ ?_ (fun hHeld => ?_)
              · exact ⟨(A0.ext E).cell0 rfl, (A0.ext E).cell0 rfl, (A1.ext E).cell0 rfl, (A1.ext E).cell0 rfl⟩
              clear hK K'
              try simp only [Act.put, List.setIfInBounds_toArray, List.set_cons_zero, List.set_cons_succ]
              refine wpAnyH_take (i := 5) (v := ?_) rfl (by kernel_rfl) (by kernel_rfl) (by kernel_rfl) (fun _ _ _ h => h) (Or.inl ⟨by rfl, fun w' hS' => ?_⟩) (by assumption) ?_
              rotate_left
              · (try dsimp only at hS'); go_simp; (try rw [if_pos (by omega)]); try with_reducible rfl
              try simp only [Act.put, List.getElem_toArray, List.getElem_cons_zero, List.getElem_cons_succ, List.setIfInBounds_toArray, List.set_cons_zero, List.set_cons_succ]
              refine wpAnyH_take (i := 6) (v := ?_) rfl (by kernel_rfl) (by kernel_rfl) (by kernel_rfl) (fun _ _ _ h => h) (Or.inl ⟨by rfl, fun w' hS' => ?_⟩) (by assumption) ?_
              rotate_left
              · (try dsimp only at hS'); go_simp; (try rw [if_pos (by omega)]); try with_reducible rfl
              try simp only [Act.put, List.getElem_toArray, List.getElem_cons_zero, List.getElem_cons_succ, List.setIfInBounds_toArray, List.set_cons_zero, List.set_cons_succ]
              refine wpAnyH_take (i := 7) (v := ?_) rfl (by kernel_rfl) (by kernel_rfl) (by kernel_rfl) (fun _ _ _ h => h) (Or.inl ⟨by rfl, fun w' hS' => ?_⟩) (by assumption) ?_
              rotate_left
              · (try dsimp only at hS'); go_simp; (try rw [if_pos (by omega)]); try with_reducible rfl
              try simp only [Act.put, List.getElem_toArray, List.getElem_cons_zero, List.getElem_cons_succ, List.setIfInBounds_toArray, List.set_cons_zero, List.set_cons_succ]
              refine wpAnyH_ready (rs := [8]) (by kernel_rfl) (by simp) ?_
              refine AllReadyH.cons rfl (fun K' hK => ?_) AllReadyH.nil
              refine if_yes (by rfl) ?_
              try simp only [Act.put, List.setIfInBounds_toArray, List.set_cons_zero, List.set_cons_succ]
              go_simp
              have hgow : w14.heap.size ≤ u3x.heap.size := E.size
              have Bo := Box.new u3x 29 #[.int .i64 0, .slice none 0 0]
              have E := ext_alloc E (.cells #[.int .i64 0, .slice none 0 0] 29)
              obtain ⟨u4x, hu4x⟩ : ∃ u4x, Hid (u4x = u3x.alloc (.cells #[.int .i64 0, .slice none 0 0] 29)) := ⟨_, rfl⟩
              rw [← hu4x.out] at Bo E ⊢
              have hrow := hrow.alloc (.cells #[.int .i64 0, .slice none 0 0] 29)
              rw [← hu4x.out] at hrow
              refine hK.out _ _ ?_ (fun hHeld => ?_)
              · exact ⟨(A0.ext E).cell0 rfl, (A0.ext E).cell0 rfl, (A1.ext E).cell0 rfl, (A1.ext E).cell0 rfl⟩
              clear hK K'
              try simp only [Act.put, List.setIfInBounds_toArray, List.set_cons_zero, List.set_cons_succ]
              obtain ⟨rco, rzo⟩ := (Bo).rules; have rlo := (Bo).lt
              refine wpAnyH_ready (rs := [9]) (by kernel_rfl) (by simp) ?_
              refine AllReadyH.cons rfl (fun K' hK => ?_) AllReadyH.nil
              refine if_yes (by rfl) ?_
              go_simp
              have E := ext_set (ext_set E (p := ⟨u3x.heap.size, 0, none⟩) hgow (.int .i64 P'.pts)) (p := ⟨u3x.heap.size, 1, none⟩) hgow (.slice aw P'.bs.length cw)
              have hrow := own_far hrow (grown_set (i := 1) (grown_set (i := 0) (World.grownBy.refl _ (some (u3x.heap.size))) (.int .i64 P'.pts)) (.slice aw P'.bs.length cw)) (fun k hk e => own_not_box hrow Bo (by rw [hk]; exact e))
              have Bo := (Bo.set 0 (.int .i64 P'.pts)).set 1 (.slice aw P'.bs.length cw)
              refine hK.out _ _ ?_ (fun hHeld => ?_)
              · exact ⟨(A0.ext E).cell0 rfl, (A0.ext E).cell0 rfl, (A1.ext E).cell0 rfl, (A1.ext E).cell0 rfl⟩
              clear hK K'
              try simp only [Act.put, List.setIfInBounds_toArray, List.set_cons_zero, List.set_cons_succ]
              refine wpAnyH_ready (rs := [10]) (by kernel_rfl) (by simp) ?_
              refine AllReadyH.cons rfl (fun K' hK => ?_) AllReadyH.nil
              refine if_yes (by rfl) ?_
              go_simp
              refine hK.out _ _ ?_ (fun hHeld => ?_)
              · exact ⟨(A0.ext E).cell0 rfl, (A0.ext E).cell0 rfl, (A1.ext E).cell0 rfl, (A1.ext E).cell0 rfl⟩
              clear hK K'
              try simp only [Act.put, List.setIfInBounds_toArray, List.set_cons_zero, List.set_cons_succ]
              refine wpAnyH_done (by kernel_rfl) ?_ _
              try simp only [Act.put, List.setIfInBounds_toArray, List.set_cons_zero, List.set_cons_succ]
              go_wp2_with fail
              go_meet
              exact ⟨u3x.heap.size, .slice aw P'.bs.length cw, rfl, rfl, Bo, hrow, hgow, E⟩
            · refine if_yes (by rfl) ?_
              try simp only [Act.put, List.setIfInBounds_toArray, List.set_cons_zero, List.set_cons_succ]
              go_simp
              have hgow : w14.heap.size ≤ u2x.heap.size := E.size
              have Bo := Box.new u2x 29 #[.int .i64 0, .slice none 0 0]
              have E := ext_alloc E (.cells #[.int .i64 0, .slice none 0 0] 29)
              obtain ⟨u5x, hu5x⟩ : ∃ u5x, Hid (u5x = u2x.alloc (.cells #[.int .i64 0, .slice none 0 0] 29)) := ⟨_, rfl⟩
              rw [← hu5x.out] at Bo E ⊢
              have hr0 := hr0.alloc (.cells #[.int .i64 0, .slice none 0 0] 29)
              rw [← hu5x.out] at hr0
              have hr1 := hr1.alloc (.cells #[.int .i64 0, .slice none 0 0] 29)
              rw [← hu5x.out] at hr1
              refine hK.out _ _ ?_ (fun hHeld => ?_)
              · exact ⟨(A0.ext E).cell0 rfl, (A0.ext E).cell0 rfl, (A1.ext E).cell0 rfl, (A1.ext E).cell0 rfl⟩
              clear hK K'
              try simp only [Act.put, List.setIfInBounds_toArray, List.set_cons_zero, List.set_cons_succ]
              refine wpAnyH_ready (rs := [4]) (by kernel_rfl) (by simp) ?_
              refine AllReadyH.cons rfl (fun K' hK => ?_) AllReadyH.nil
              refine if_yes (by rfl) ?_
              try simp only [Act.put, List.setIfInBounds_toArray, List.set_cons_zero, List.set_cons_succ]
              go_simp
              refine (impl_CommonOf (⟨pts0, l0⟩ : Pl) (⟨pts1, l1⟩ : Pl) _ _ _ (hr0.base (Nat.zero_le _)) (hr1.base (Nat.zero_le _))).mono ?_
              rintro e u6x ⟨rw, rfl, hrow, hb⟩
              rw [← hP'.out] at hrow ⊢
              rw [← hb'.out]
              have hrow := hrow.base E.size
              have E := ext_trans E hb
              have Bo := Bo.ext hb
              clear hb
              obtain ⟨aw, cw, rfl, -⟩ := hrow.open
              go_wp2_with fail
              refine hK.out _ _ ?_ (fun hHeld => ?_)
              · exact ⟨(A0.ext E).cell0 rfl, (A0.ext E).cell0 rfl, (A1.ext E).cell0 rfl, (A1.ext E).cell0 rfl⟩
              clear hK K'
              try simp only [Act.put, List.setIfInBounds_toArray, List.set_cons_zero, List.set_cons_succ]
              refine wpAnyH_take (i := 5) (v := ?_) rfl (by kernel_rfl) (by kernel_rfl) (by kernel_rfl) (fun _ _ _ h => h) (Or.inl ⟨by rfl, fun w' hS' => ?_⟩) (by assumption) ?_
              rotate_left
              · (try dsimp only at hS'); go_simp; (try rw [if_pos (by omega)]); try with_reducible rfl
              try simp only [Act.put, List.getElem_toArray, List.getElem_cons_zero, List.getElem_cons_succ, List.setIfInBounds_toArray, List.set_cons_zero, List.set_cons_succ]
              refine wpAnyH_take (i := 6) (v := ?_) rfl (by kernel_rfl) (by kernel_rfl) (by kernel_rfl) (fun _ _ _ h => h) (Or.inl ⟨by rfl, fun w' hS' => ?_⟩) (by assumption) ?_
              rotate_left
              · (try dsimp only at hS'); go_simp; (try rw [if_pos (by omega)]); try with_reducible rfl
              try simp only [Act.put, List.getElem_toArray, List.getElem_cons_zero, List.getElem_cons_succ, List.setIfInBounds_toArray, List.set_cons_zero, List.set_cons_succ]
              refine wpAnyH_take (i := 7) (v := ?_) rfl (by kernel_rfl) (by kernel_rfl) (by kernel_rfl) (fun _ _ _ h => h) (Or.inl ⟨by rfl, fun w' hS' => ?_⟩) (by assumption) ?_
              rotate_left
              · (try dsimp only at hS'); go_simp; (try rw [if_pos (by omega)]); try with_reducible rfl
              try simp only [Act.put, List.getElem_toArray, List.getElem_cons_zero, List.getElem_cons_succ, List.setIfInBounds_toArray, List.set_cons_zero, List.set_cons_succ]
              obtain ⟨rco, rzo⟩ := (Bo).rules; have rlo := (Bo).lt
              refine wpAnyH_ready (rs := [9]) (by kernel_rfl) (by simp) ?_
              refine AllReadyH.cons rfl (fun K' hK => ?_) AllReadyH.nil
              refine if_yes (by rfl) ?_
              go_simp
              have E := ext_set (ext_set E (p := ⟨u2x.heap.size, 0, none⟩) hgow (.int .i64 P'.pts)) (p := ⟨u2x.heap.size, 1, none⟩) hgow (.slice aw P'.bs.length cw)
              have hrow := own_far hrow (grown_set (i := 1) (grown_set (i := 0) (World.grownBy.refl _ (some (u2x.heap.size))) (.int .i64 P'.pts)) (.slice aw P'.bs.length cw)) (fun k hk e => own_not_box hrow Bo (by rw [hk]; exact e))
              have Bo := (Bo.set 0 (.int .i64 P'.pts)).set 1 (.slice aw P'.bs.length cw)
              refine hK.out _ _ ?_ (fun hHeld => ?_)
              · exact ⟨(A0.ext E).cell0 rfl, (A0.ext E).cell0 rfl, (A1.ext E).cell0 rfl, (A1.ext E).cell0 rfl⟩
              clear hK K'
              try simp only [Act.put, List.setIfInBounds_toArray, List.set_cons_zero, List.set_cons_succ]
              refine wpAnyH_ready (rs := [10]) (by kernel_rfl) (by simp) ?_
              refine AllReadyH.cons rfl (fun K' hK => ?_) AllReadyH.nil
              refine if_yes (by rfl) ?_
              go_simp
              refine hK.out _ _ ?_ (fun hHeld => ?_)
              · exact ⟨(A0.ext E).cell0 rfl, (A0.ext E).cell0 rfl, (A1.ext E).cell0 rfl, (A1.ext E).cell0 rfl⟩
              clear hK K'
              try simp only [Act.put, List.setIfInBounds_toArray, List.set_cons_zero, List.set_cons_succ]
              refine wpAnyH_done (by kernel_rfl) ?_ _
              try simp only [Act.put, List.setIfInBounds_toArray, List.set_cons_zero, List.set_cons_succ]
              go_wp2_with fail
              go_meet
              exact ⟨u2x.heap.size, .slice aw P'.bs.length cw, rfl, rfl, Bo, hrow, hgow, E⟩
          · refine if_yes (by rfl) ?_
            try simp only [Act.put, List.setIfInBounds_toArray, List.set_cons_zero, List.set_cons_succ]
            go_simp
            have hgow : w14.heap.size ≤ u1x.heap.size := E.size
            have Bo := Box.new u1x 29 #[.int .i64 0, .slice none 0 0]
            have E := ext_alloc E (.cells #[.int .i64 0, .slice none 0 0] 29)
            obtain ⟨u7x, hu7x⟩ : ∃ u7x, Hid (u7x = u1x.alloc (.cells #[.int .i64 0, .slice none 0 0] 29)) := ⟨_, rfl⟩
            rw [← hu7x.out] at Bo E ⊢
            have hr0 := hr0.alloc (.cells #[.int .i64 0, .slice none 0 0] 29)
            rw [← hu7x.out] at hr0
            refine hK.out _ _ ?_ (fun hHeld => ?_)
            · exact ⟨(A0.ext E).cell0 rfl, (A0.ext E).cell0 rfl, (A1.ext E).cell0 rfl, (A1.ext E).cell0 rfl⟩
            clear hK K'
            try simp only [Act.put, List.setIfInBounds_toArray, List.set_cons_zero, List.set_cons_succ]
            refine wpAnyH_ready (rs := [3]) (by kernel_rfl) (by simp) ?_
            refine AllReadyH.cons rfl (fun K' hK => ?_) AllReadyH.nil
            refine if_yes (by rfl) ?_
            try simp only [Act.put, List.setIfInBounds_toArray, List.set_cons_zero, List.set_cons_succ]
            go_simp
            refine (laws_toPlan pts1 a1 n1 cap1 l1 _ (H1.out.ext (ext_trans E0 E)) (by omega)).mono ?_
            rintro e u8x ⟨r1, rfl, hr1, hb⟩
            have E := ext_trans E hb
            have hr0 := hr0.ext hb
            have Bo := Bo.ext hb
            clear hb
            go_wp2_with fail
            refine hK.out _ _ ?_ (fun hHeld => ?_)
            · exact ⟨(A0.ext E).cell0 rfl, (A0.ext E).cell0 rfl, (A1.ext E).cell0 rfl, (A1.ext E).cell0 rfl⟩
            clear hK K'
            try simp only [Act.put, List.setIfInBounds_toArray, List.set_cons_zero, List.set_cons_succ]
            refine wpAnyH_ready (rs := [4]) (by kernel_rfl) (by simp) ?_
            refine AllReadyH.cons rfl (fun K' hK => ?_) AllReadyH.nil
            refine if_yes (by rfl) ?_
            try simp only [Act.put, List.setIfInBounds_toArray, List.set_cons_zero, List.set_cons_succ]
            go_simp
            refine (impl_CommonOf (⟨pts0, l0⟩ : Pl) (⟨pts1, l1⟩ : Pl) _ _ _ (hr0.base (Nat.zero_le _)) (hr1.base (Nat.zero_le _))).mono ?_
            rintro e u9x ⟨rw, rfl, hrow, hb⟩
            rw [← hP'.out] at hrow ⊢
            rw [← hb'.out]
            have hrow := hrow.base E.size
            have E := ext_trans E hb
            have Bo := Bo.ext hb
            clear hb
            obtain ⟨aw, cw, rfl, -⟩ := hrow.open
            go_wp2_with fail
            refine hK.out _ _ ?_ (fun hHeld => ?_)
            · exact ⟨(A0.ext E).cell0 rfl, (A0.ext E).cell0 rfl, (A1.ext E).cell0 rfl, (A1.ext E).cell0 rfl⟩
            clear hK K'
            try simp only [Act.put, List.setIfInBounds_toArray, List.set_cons_zero, List.set_cons_succ]
            refine wpAnyH_take (i := 5) (v := ?_) rfl (by kernel_rfl) (by kernel_rfl) (by kernel_rfl) (fun _ _ _ h => h) (Or.inl ⟨by rfl, fun w' hS' => ?_⟩) (by assumption) ?_
            rotate_left
            · (try dsimp only at hS'); go_simp; (try rw [if_pos (by omega)]); try with_reducible rfl
            try simp only [Act.put, List.getElem_toArray, List.getElem_cons_zero, List.getElem_cons_succ, List.setIfInBounds_toArray, List.set_cons_zero, List.set_cons_succ]
            refine wpAnyH_take (i := 6) (v := ?_) rfl (by kernel_rfl) (by kernel_rfl) (by kernel_rfl) (fun _ _ _ h => h) (Or.inl ⟨by rfl, fun w' hS' => ?_⟩) (by assumption) ?_
            rotate_left
            · (try dsimp only at hS'); go_simp; (try rw [if_pos (by omega)]); try with_reducible rfl
            try simp only [Act.put, List.getElem_toArray, List.getElem_cons_zero, List.getElem_cons_succ, List.setIfInBounds_toArray, List.set_cons_zero, List.set_cons_succ]
            refine wpAnyH_take (i := 7) (v := ?_) rfl (by kernel_rfl) (by kernel_rfl) (by kernel_rfl) (fun _ _ _ h => h) (Or.inl ⟨by rfl, fun w' hS' => ?_⟩) (by assumption) ?_
            rotate_left
            · (try dsimp only at hS'); go_simp; (try rw [if_pos (by omega)]); try with_reducible rfl
            try simp only [Act.put, List.getElem_toArray, List.getElem_cons_zero, List.getElem_cons_succ, List.setIfInBounds_toArray, List.set_cons_zero, List.set_cons_succ]
            obtain ⟨rco, rzo⟩ := (Bo).rules; have rlo := (Bo).lt
            refine wpAnyH_ready (rs := [9]) (by kernel_rfl) (by simp) ?_
            refine AllReadyH.cons rfl (fun K' hK => ?_) AllReadyH.nil
            refine if_yes (by rfl) ?_
            go_simp
            have E := ext_set (ext_set E (p := ⟨u1x.heap.size, 0, none⟩) hgow (.int .i64 P'.pts)) (p := ⟨u1x.heap.size, 1, none⟩) hgow (.slice aw P'.bs.length cw)
            have hrow := own_far hrow (grown_set (i := 1) (grown_set (i := 0) (World.grownBy.refl _ (some (u1x.heap.size))) (.int .i64 P'.pts)) (.slice aw P'.bs.length cw)) (fun k hk e => own_not_box hrow Bo (by rw [hk]; exact e))
            have Bo := (Bo.set 0 (.int .i64 P'.pts)).set 1 (.slice aw P'.bs.length cw)
            refine hK.out _ _ ?_ (fun hHeld => ?_)
            · exact ⟨(A0.ext E).cell0 rfl, (A0.ext E).cell0 rfl, (A1.ext E).cell0 rfl, (A1.ext E).cell0 rfl⟩
            clear hK K'
            try simp only [Act.put, List.setIfInBounds_toArray, List.set_cons_zero, List.set_cons_succ]
            refine wpAnyH_ready (rs := [10]) (by kernel_rfl) (by simp) ?_
            refine AllReadyH.cons rfl (fun K' hK => ?_) AllReadyH.nil
            refine if_yes (by rfl) ?_
            go_simp
            refine hK.out _ _ ?_ (fun hHeld => ?_)
            · exact ⟨(A0.ext E).cell0 rfl, (A0.ext E).cell0 rfl, (A1.ext E).cell0 rfl, (A1.ext E).cell0 rfl⟩
            clear hK K'
            try simp only [Act.put, List.setIfInBounds_toArray, List.set_cons_zero, List.set_cons_succ]
            refine wpAnyH_done (by kernel_rfl) ?_ _
            try simp only [Act.put, List.setIfInBounds_toArray, List.set_cons_zero, List.set_cons_succ]
            go_wp2_with fail
            go_meet
            exact ⟨u1x.heap.size, .slice aw P'.bs.length cw, rfl, rfl, Bo, hrow, hgow, E⟩
        · refine if_yes (by rfl) ?_
          try simp only [Act.put, List.setIfInBounds_toArray, List.set_cons_zero, List.set_cons_succ]
          go_simp
          have hgow : w14.heap.size ≤ D.heap.size := E.size
          have Bo := Box.new D 29 #[.int .i64 0, .slice none 0 0]
          have E := ext_alloc E (.cells #[.int .i64 0, .slice none 0 0] 29)
          obtain ⟨u10x, hu10x⟩ : ∃ u10x, Hid (u10x = D.alloc (.cells #[.int .i64 0, .slice none 0 0] 29)) := ⟨_, rfl⟩
          rw [← hu10x.out] at Bo E ⊢
          refine hK.out _ _ ?_ (fun hHeld => ?_)
          · exact ⟨(A0.ext E).cell0 rfl, (A0.ext E).cell0 rfl, (A1.ext E).cell0 rfl, (A1.ext E).cell0 rfl⟩
          clear hK K'
          try simp only [Act.put, List.setIfInBounds_toArray, List.set_cons_zero, List.set_cons_succ]
          refine wpAnyH_ready (rs := [1]) (by kernel_rfl) (by simp) ?_
          refine AllReadyH.cons rfl (fun K' hK => ?_) AllReadyH.nil
          refine if_yes (by rfl) ?_
          try simp only [Act.put, List.setIfInBounds_toArray, List.set_cons_zero, List.set_cons_succ]
          go_simp
          refine (laws_toPlan pts0 a0 n0 cap0 l0 _ (H0.out.ext (ext_trans E0 E)) (by omega)).mono ?_
          rintro e u11x ⟨r0, rfl, hr0, hb⟩
          have E := ext_trans E hb
          have Bo := Bo.ext hb
          clear hb
          go_wp2_with fail
          refine hK.out _ _ ?_ (fun hHeld => ?_)
          · exact ⟨(A0.ext E).cell0 rfl, (A0.ext E).cell0 rfl, (A1.ext E).cell0 rfl, (A1.ext E).cell0 rfl⟩
          clear hK K'
          try simp only [Act.put, List.setIfInBounds_toArray, List.set_cons_zero, List.set_cons_succ]
          refine wpAnyH_ready (rs := [3]) (by kernel_rfl) (by simp) ?_
          refine AllReadyH.cons rfl (fun K' hK => ?_) AllReadyH.nil
          refine if_yes (by rfl) ?_
          try simp only [Act.put, List.setIfInBounds_toArray, List.set_cons_zero, List.set_cons_succ]
          go_simp
          refine (laws_toPlan pts1 a1 n1 cap1 l1 _ (H1.out.ext (ext_trans E0 E)) (by omega)).mono ?_
          rintro e u12x ⟨r1, rfl, hr1, hb⟩
          have E := ext_trans E hb
          have hr0 := hr0.ext hb
          have Bo := Bo.ext hb
          clear hb
          go_wp2_with fail
          refine hK.out _ _ ?_ (fun hHeld => ?_)
          · exact ⟨(A0.ext E).cell0 rfl, (A0.ext E).cell0 rfl, (A1.ext E).cell0 rfl, (A1.ext E).cell0 rfl⟩
          clear hK K'
          try simp only [Act.put, List.setIfInBounds_toArray, List.set_cons_zero, List.set_cons_succ]
          refine wpAnyH_ready (rs := [4]) (by kernel_rfl) (by simp) ?_
          refine AllReadyH.cons rfl (fun K' hK => ?_) AllReadyH.nil
          refine if_yes (by rfl) ?_
          try simp only [Act.put, List.setIfInBounds_toArray, List.set_cons_zero, List.set_cons_succ]
          go_simp
          refine (impl_CommonOf (⟨pts0, l0⟩ : Pl) (⟨pts1, l1⟩ : Pl) _ _ _ (hr0.base (Nat.zero_le _)) (hr1.base (Nat.zero_le _))).mono ?_
          rintro e u13x ⟨rw, rfl, hrow, hb⟩
          rw [← hP'.out] at hrow ⊢
          rw [← hb'.out]
          have hrow := hrow.base E.size
          have E := ext_trans E hb
          have Bo := Bo.ext hb
          clear hb
          obtain ⟨aw, cw, rfl, -⟩ := hrow.open
          go_wp2_with fail
          refine hK.out _ _ ?_ (fun hHeld => ?_)
          · exact ⟨(A0.ext E).cell0 rfl, (A0.ext E).cell0 rfl, (A1.ext E).cell0 rfl, (A1.ext E).cell0 rfl⟩
          clear hK K'
          try simp only [Act.put, List.setIfInBounds_toArray, List.set_cons_zero, List.set_cons_succ]
          refine wpAnyH_take (i := 5) (v := ?_) rfl (by kernel_rfl) (by kernel_rfl) (by kernel_rfl) (fun _ _ _ h => h) (Or.inl ⟨by rfl, fun w' hS' => ?_⟩) (by assumption) ?_
          rotate_left
          · (try dsimp only at hS'); go_simp; (try rw [if_pos (by omega)]); try with_reducible rfl
          try simp only [Act.put, List.getElem_toArray, List.getElem_cons_zero, List.getElem_cons_succ, List.setIfInBounds_toArray, List.set_cons_zero, List.set_cons_succ]
          refine wpAnyH_take (i := 6) (v := ?_) rfl (by kernel_rfl) (by kernel_rfl) (by kernel_rfl) (fun _ _ _ h => h) (Or.inl ⟨by rfl, fun w' hS' => ?_⟩) (by assumption) ?_
          rotate_left
          · (try dsimp only at hS'); go_simp; (try rw [if_pos (by omega)]); try with_reducible rfl
          try simp only [Act.put, List.getElem_toArray, List.getElem_cons_zero, List.getElem_cons_succ, List.setIfInBounds_toArray, List.set_cons_zero, List.set_cons_succ]
          refine wpAnyH_take (i := 7) (v := ?_) rfl (by kernel_rfl) (by kernel_rfl) (by kernel_rfl) (fun _ _ _ h => h) (Or.inl ⟨by rfl, fun w' hS' => ?_⟩) (by assumption) ?_
          rotate_left
          · (try dsimp only at hS'); go_simp; (try rw [if_pos (by omega)]); try with_reducible rfl
          try simp only [Act.put, List.getElem_toArray, List.getElem_cons_zero, List.getElem_cons_succ, List.setIfInBounds_toArray, List.set_cons_zero, List.set_cons_succ]
          obtain ⟨rco, rzo⟩ := (Bo).rules; have rlo := (Bo).lt
          refine wpAnyH_ready (rs := [9]) (by kernel_rfl) (by simp) ?_
          refine AllReadyH.cons rfl (fun K' hK => ?_) AllReadyH.nil
          refine if_yes (by rfl) ?_
          go_simp
          have E := ext_set (ext_set E (p := ⟨D.heap.size, 0, none⟩) hgow (.int .i64 P'.pts)) (p := ⟨D.heap.size, 1, none⟩) hgow (.slice aw P'.bs.length cw)
          have hrow := own_far hrow (grown_set (i := 1) (grown_set (i := 0) (World.grownBy.refl _ (some (D.heap.size))) (.int .i64 P'.pts)) (.slice aw P'.bs.length cw)) (fun k hk e => own_not_box hrow Bo (by rw [hk]; exact e))
          have Bo := (Bo.set 0 (.int .i64 P'.pts)).set 1 (.slice aw P'.bs.length cw)
          refine hK.out _ _ ?_ (fun hHeld => ?_)
          · exact ⟨(A0.ext E).cell0 rfl, (A0.ext E).cell0 rfl, (A1.ext E).cell0 rfl, (A1.ext E).cell0 rfl⟩
          clear hK K'
          try simp only [Act.put, List.setIfInBounds_toArray, List.set_cons_zero, List.set_cons_succ]
          refine wpAnyH_ready (rs := [10]) (by kernel_rfl) (by simp) ?_
          refine AllReadyH.cons rfl (fun K' hK => ?_) AllReadyH.nil
          refine if_yes (by rfl) ?_
          go_simp
          refine hK.out _ _ ?_ (fun hHeld => ?_)
          · exact ⟨(A0.ext E).cell0 rfl, (A0.ext E).cell0 rfl, (A1.ext E).cell0 rfl, (A1.ext E).cell0 rfl⟩
          clear hK K'
          try simp only [Act.put, List.setIfInBounds_toArray, List.set_cons_zero, List.set_cons_succ]
          refine wpAnyH_done (by kernel_rfl) ?_ _
          try simp only [Act.put, List.setIfInBounds_toArray, List.set_cons_zero, List.set_cons_succ]
          go_wp2_with fail
          go_meet
          exact ⟨D.heap.size, .slice aw P'.bs.length cw, rfl, rfl, Bo, hrow, hgow, E⟩
      rename World => w15
      obtain ⟨goh, sh, rfl, rfl, Bh, hsh, hgoh, hb15⟩ := hcut
      obtain ⟨ah, ch, rfl, -⟩ := hsh.open
      have Bhsh := Lib.hid hsh.lt
      have A0 := A0.ext hb15
      have A1 := A1.ext hb15
      have Bw := Bw.ext hb15
      have X0 := X0.ext hb15
      have X1 := X1.ext hb15
      have G := G.ext hb15
      have hsw := hsw.ext hb15
      have hsx0 := hsx0.ext hb15
      have hsx1 := hsx1.ext hb15
      have hsg := hsg.ext hb15
      have E := ext_trans E hb15
      have q15 := hb15.size
      obtain ⟨rcA0, rzA0⟩ := (A0).rules; have rlA0 := (A0).lt
      obtain ⟨rcA1, rzA1⟩ := (A1).rules; have rlA1 := (A1).lt
      obtain ⟨rcBw, rzBw⟩ := (Bw).rules; have rlBw := (Bw).lt
      obtain ⟨rcX0, rzX0⟩ := (X0).rules; have rlX0 := (X0).lt
      obtain ⟨rcX1, rzX1⟩ := (X1).rules; have rlX1 := (X1).lt
      obtain ⟨rcG, rzG⟩ := (G).rules; have rlG := (G).lt
      obtain ⟨rcBh, rzBh⟩ := (Bh).rules; have rlBh := (Bh).lt
      go_wp2_with fail
      refine (laws_eqPlan P' P' _ _ _ ((hsh).base (Nat.zero_le _)) ((hsw).base (Nat.zero_le _))).mono ?_
      rintro e w16 ⟨rfl, hb16⟩
      have A0 := A0.ext hb16
      have A1 := A1.ext hb16
      have Bw := Bw.ext hb16
      have X0 := X0.ext hb16
      have X1 := X1.ext hb16
      have G := G.ext hb16
      have Bh := Bh.ext hb16
      have hsw := hsw.ext hb16
      have hsx0 := hsx0.ext hb16
      have hsx1 := hsx1.ext hb16
      have hsg := hsg.ext hb16
      have hsh := hsh.ext hb16
      have E := ext_trans E hb16
      have q16 := hb16.size
      rw [decide_eq_true rfl]
      obtain ⟨rcA0, rzA0⟩ := (A0).rules; have rlA0 := (A0).lt
      obtain ⟨rcA1, rzA1⟩ := (A1).rules; have rlA1 := (A1).lt
      obtain ⟨rcBw, rzBw⟩ := (Bw).rules; have rlBw := (Bw).lt
      obtain ⟨rcX0, rzX0⟩ := (X0).rules; have rlX0 := (X0).lt
      obtain ⟨rcX1, rzX1⟩ := (X1).rules; have rlX1 := (X1).lt
      obtain ⟨rcG, rzG⟩ := (G).rules; have rlG := (G).lt
      obtain ⟨rcBh, rzBh⟩ := (Bh).rules; have rlBh := (Bh).lt
      go_wp2_with fail
      refine (laws_heldPlan P'.pts _ P'.bs.length 1 _ (hsg.base (Nat.zero_le _)) (by omega) (by omega) (by omega)).mono ?_
      rintro e w17 ⟨rfl, hb17⟩
      have A0 := A0.ext hb17
      have A1 := A1.ext hb17
      have Bw := Bw.ext hb17
      have X0 := X0.ext hb17
      have X1 := X1.ext hb17
      have G := G.ext hb17
      have Bh := Bh.ext hb17
      have hsw := hsw.ext hb17
      have hsx0 := hsx0.ext hb17
      have hsx1 := hsx1.ext hb17
      have hsg := hsg.ext hb17
      have hsh := hsh.ext hb17
      have E := ext_trans E hb17
      have q17 := hb17.size
      obtain ⟨rcA0, rzA0⟩ := (A0).rules; have rlA0 := (A0).lt
      obtain ⟨rcA1, rzA1⟩ := (A1).rules; have rlA1 := (A1).lt
      obtain ⟨rcBw, rzBw⟩ := (Bw).rules; have rlBw := (Bw).lt
      obtain ⟨rcX0, rzX0⟩ := (X0).rules; have rlX0 := (X0).lt
      obtain ⟨rcX1, rzX1⟩ := (X1).rules; have rlX1 := (X1).lt
      obtain ⟨rcG, rzG⟩ := (G).rules; have rlG := (G).lt
      obtain ⟨rcBh, rzBh⟩ := (Bh).rules; have rlBh := (Bh).lt
      go_wp2_with fail
      go_ret
      exact ⟨rfl, E⟩
end Go.Proofs.Ytpccfkbpnfbdaaa
