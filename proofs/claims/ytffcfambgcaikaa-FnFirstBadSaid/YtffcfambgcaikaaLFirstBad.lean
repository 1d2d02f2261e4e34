/- The walk of FnFirstBad: it returns true, whatever code came in. Condition: the bytes of the code can be read. -/
import Derived.Test.YtffcfambgcaikaaHeardD
import Derived.Test.YtffcfambgcaikaaWaitI
import Derived.Test.YtffcfambgcaikaaSame
namespace Go.Proofs.Ytffcfambgcaikaa
open Go.RowKit
set_option linter.unusedVariables false
set_option linter.unusedSimpArgs false
set_option maxRecDepth 100000 in
set_option maxHeartbeats 8000000 in
theorem walk_FirstBad (a : Option Addr) (n cap : Nat) (w : World) (h : Byt w w.heap.size a n cap) :
    Calls Try.prog 7 #[.slice a n cap] w fun e w' => e = .returned (.bool true) ∧ Below w.heap.size w w' := by
  have H := Lib.hid h
  obtain ⟨hncap, hcap, -⟩ := id h
  clear h
  by_cases hbig : 1048576 < n
  · go_enter Try.func7, Try.ntmps7
    go_wp2_with fail
    go_ret
    exact ⟨rfl, ext_refl _⟩
  go_enter Try.func7, Try.ntmps7
  go_wp2_with fail
  refine (spec_DrawFirstBad a n cap w H.out).mono ?_
  rintro e w1 ⟨v1, v2, p, l, rfl, hV, hU, hl16, hl6, h0, h7, htm, hb1⟩
  have E := hb1
  clear hb1
  obtain ⟨a1, c1, rfl, -⟩ := hV.open
  have V := Lib.hid hV
  clear hV
  obtain ⟨a2, c2, rfl, -⟩ := hU.open
  have U := Lib.hid hU
  clear hU
  go_upto_region 4 with fail
  obtain ⟨w2, hw2, A0, hs2, hb2⟩ := one_box w1 #[.int .i64 p.pts, .slice a1 p.bs.length c1] 25
  rw [← hw2.out]
  have V := Lib.hid (V.out.ext hb2)
  have U := Lib.hid (U.out.ext hb2)
  have E := ext_trans E hb2
  clear hb2
  have Htm := Lib.hid htm
  clear htm
  obtain ⟨N, hN⟩ : ∃ N, Hid (N = l.length) := ⟨_, rfl⟩
  rw [← hN.out] at hl6 U ⊢
  have hncl : N ≤ c2 ∧ c2 ≤ 9223372036854775807 := by obtain ⟨_, _, he, h1, h2, -⟩ := U.out.open; cases he; rw [hN.out]; exact ⟨h1, h2⟩
  obtain ⟨rcA0, rzA0⟩ := (A0).rules; have rlA0 := (A0).lt
  go_wp2_with fail
  obtain ⟨z, hz⟩ : ∃ z, Hid (z = p.firstBad l) := ⟨_, rfl⟩
  have hzz : (z != z) = false := by simp
  refine (impl_FirstBad p _ _ l _ (V.out.base (Nat.zero_le _)) (U.out.base (Nat.zero_le _)) (by rw [← hN.out]; omega)).mono ?_
  rintro e w3 ⟨rfl, hb3⟩
  clear rcA0 rzA0 rlA0
  have A0 := A0.ext hb3
  have V := Lib.hid (V.out.ext hb3)
  have U := Lib.hid (U.out.ext hb3)
  have E := ext_trans E hb3
  clear hb3
  rw [← hz.out]
  obtain ⟨rcA0, rzA0⟩ := (A0).rules; have rlA0 := (A0).lt
  go_wp2_with fail
  refine (spec_FirstBad p _ _ l _ (V.out.base (Nat.zero_le _)) (U.out.base (Nat.zero_le _)) (by rw [← hN.out]; omega)).mono ?_
  rintro e w4 ⟨rfl, hb4⟩
  clear rcA0 rzA0 rlA0
  have A0 := A0.ext hb4
  have V := Lib.hid (V.out.ext hb4)
  have U := Lib.hid (U.out.ext hb4)
  have E := ext_trans E hb4
  clear hb4
  rw [← hz.out]
  obtain ⟨rcA0, rzA0⟩ := (A0).rules; have rlA0 := (A0).lt
  go_wp2_with fail
  refine (spec_HeardOk p _ _ l _ (V.out.base (Nat.zero_le _)) (U.out.base (Nat.zero_le _)) (by rw [← hN.out]; omega)).mono ?_
  rintro e w5 ⟨rfl, hb5⟩
  clear rcA0 rzA0 rlA0
  have A0 := A0.ext hb5
  have V := Lib.hid (V.out.ext hb5)
  have U := Lib.hid (U.out.ext hb5)
  have E := ext_trans E hb5
  clear hb5
  obtain ⟨rcA0, rzA0⟩ := (A0).rules; have rlA0 := (A0).lt
  cases hd : p.heard l
  · have hz1 : z = -1 := by rw [hz.out]; unfold Pl.firstBad; rw [if_neg (by rw [hd]; simp)]
    have hzb : (z == -1) = true := by simp [hz1]
    have Hz1 := Lib.hid hz1
    clear hz1 hd
    go_wp2_with fail
    refine (laws_alive _).mono ?_
    rintro e w6 ⟨rfl, hb6⟩
    clear rcA0 rzA0 rlA0
    have A0 := A0.ext hb6
    have V := Lib.hid (V.out.ext hb6)
    have U := Lib.hid (U.out.ext hb6)
    have E := ext_trans E hb6
    clear hb6
    go_wp2_with fail
    go_ret
    exact ⟨rfl, E⟩
  have hlaw := bad_law hd
  rw [← hz.out, ← hN.out] at hlaw
  clear hd
  rcases hlaw with ⟨k, hzk, hkN, hbk, hb0⟩ | ⟨hzm, hb0⟩
  · subst hzk
    have Hbk := Lib.hid hbk
    have Hb0 := Lib.hid hb0
    have hk0i : (0 : Int) ≤ (k : Int) := by omega
    clear hbk hb0
    obtain ⟨y, hy⟩ : ∃ x, Hid (x = lastT (l.take k)) := ⟨_, rfl⟩
    have hlt := last_take (l := l) (k := k) (by rw [← hN.out]; exact hkN)
    rw [← hy.out] at hlt
    have Hlt := Lib.hid hlt
    clear hlt
    clear rcA0 rzA0 rlA0
    go_upto_if 41 with fail
    go_cut [7] (fun v5 wx => v5 = .int .i64 y ∧ wx = w5)
    case first =>
      by_cases hN0 : 0 < k
      · have hN0i : (0 : Int) < (k : Int) := by omega
        obtain ⟨gq, ha, hgq, -, cy⟩ := U.out.atA (j := k - 1) (by rw [← hN.out]; omega)
        subst ha
        rw [show (hA l (k - 1)).tm = y by rw [Hlt.out, if_neg (by omega)]] at cy
        have hk1 : (k : Int) - 1 = ((k - 1 : Nat) : Int) := by omega
        have hk1N : k - 1 < k := by omega
        have hk1i : 0 ≤ (k : Int) - 1 := by omega
        have hk1M : (k : Int) - 1 < (k : Int) := by omega
        have hk1n : ((k : Int) - 1).toNat = k - 1 := by omega
        go_wp2_with fail
        go_meet
        exact ⟨rfl, rfl⟩
      · have hN0i : ¬ (0 : Int) < (k : Int) := by omega
        have hy0 : y = 0 := by rw [Hlt.out, if_pos (by omega)]
        go_wp2_with fail
        go_meet
        exact ⟨by rw [hy0], rfl⟩
    rename World => wt
    obtain ⟨rfl, rfl⟩ := hcut
    obtain ⟨rcA0, rzA0⟩ := (A0).rules; have rlA0 := (A0).lt
    have hkcl : k ≤ c2 := by omega
    have hkcli : (k : Int) ≤ (c2 : Int) := by omega
    go_wp2_with fail
    clear rcA0 rzA0 rlA0
    refine wp_region_held_drew (S := fun w' => w'.cell? ⟨w1.heap.size, 0, none⟩ = some (.int .i64 p.pts) ∧ w'.cell? ⟨w1.heap.size, 1, none⟩ = some (.slice a1 p.bs.length c1)) (by kernel_rfl) ?_ (fun hHeld => ?_)
    · exact ⟨A0.cell0 rfl, A0.cell0 rfl⟩
    obtain ⟨d6, hd6⟩ : ∃ d, Hid (d = wt.drew) := ⟨_, rfl⟩
    have hb6 : Below wt.heap.size wt d6 := by rw [hd6.out]; exact ext_drew (ext_refl _)
    rw [← hd6.out] at hHeld ⊢
    have A0 := A0.ext hb6
    have V := Lib.hid (V.out.ext hb6)
    have U := Lib.hid (U.out.ext hb6)
    have E := ext_trans E hb6
    clear hb6
    try simp only [Act.put, List.setIfInBounds_toArray, List.set_cons_zero, List.set_cons_succ]
    refine wpAnyH_take (i := 0) (v := ?_) rfl (by kernel_rfl) (by kernel_rfl) (by kernel_rfl) (fun _ _ _ h => h) (Or.inl ⟨by rfl, fun w' hS' => ?_⟩) (by assumption) ?_
    rotate_left
    · (try dsimp only at hS'); go_simp; (try rw [if_pos (by omega)]); try with_reducible rfl
    try simp only [Act.put, List.getElem_toArray, List.getElem_cons_zero, List.getElem_cons_succ, List.setIfInBounds_toArray, List.set_cons_zero, List.set_cons_succ]
    refine wpAnyH_take (i := 1) (v := ?_) rfl (by kernel_rfl) (by kernel_rfl) (by kernel_rfl) (fun _ _ _ h => h) (Or.inl ⟨by rfl, fun w' hS' => ?_⟩) (by assumption) ?_
    rotate_left
    · (try dsimp only at hS'); go_simp; (try rw [if_pos (by omega)]); try with_reducible rfl
    try simp only [Act.put, List.getElem_toArray, List.getElem_cons_zero, List.getElem_cons_succ, List.setIfInBounds_toArray, List.set_cons_zero, List.set_cons_succ]
    refine wpAnyH_take (i := 2) (v := ?_) rfl (by kernel_rfl) (by kernel_rfl) (by kernel_rfl) (fun _ _ _ h => h) (Or.inl ⟨by rfl, fun w' hS' => ?_⟩) (by assumption) ?_
    rotate_left
    · (try dsimp only at hS'); go_simp; (try rw [if_pos (by omega)]); try with_reducible rfl
    try simp only [Act.put, List.getElem_toArray, List.getElem_cons_zero, List.getElem_cons_succ, List.setIfInBounds_toArray, List.set_cons_zero, List.set_cons_succ]
    refine wpAnyH_take (i := 3) (v := ?_) rfl (by kernel_rfl) (by kernel_rfl) (by kernel_rfl) (fun _ _ _ h => h) (Or.inl ⟨by rfl, fun w' hS' => ?_⟩) (by assumption) ?_
    rotate_left
    · (try dsimp only at hS'); go_simp; (try rw [if_pos (by omega)]); try with_reducible rfl
    try simp only [Act.put, List.getElem_toArray, List.getElem_cons_zero, List.getElem_cons_succ, List.setIfInBounds_toArray, List.set_cons_zero, List.set_cons_succ]
    refine wpAnyH_take (i := 4) (v := ?_) rfl (by kernel_rfl) (by kernel_rfl) (by kernel_rfl) (fun _ _ _ h => h) (Or.inl ⟨by rfl, fun w' hS' => ?_⟩) (by assumption) ?_
    rotate_left
    · (try dsimp only at hS'); go_simp; (try rw [if_pos (by omega)]); try with_reducible rfl
    try simp only [Act.put, List.getElem_toArray, List.getElem_cons_zero, List.getElem_cons_succ, List.setIfInBounds_toArray, List.set_cons_zero, List.set_cons_succ]
    refine wpAnyH_ready (rs := [5]) (by kernel_rfl) (by simp) ?_
    refine AllReadyH.cons rfl (fun K' hK => ?_) AllReadyH.nil
    refine if_yes (by rfl) ?_
    try simp only [Act.put, List.getElem_toArray, List.getElem_cons_zero, List.getElem_cons_succ, List.setIfInBounds_toArray, List.set_cons_zero, List.set_cons_succ]
    go_simp
    refine (impl_VerdictOf p _ _ (l.take k) y _ (V.out.base (Nat.zero_le _)) (Hps.takeK (n := N) (U.out.base (Nat.zero_le _)) (by rw [← hN.out]; exact hkN)) (by rw [List.length_take]; omega)).mono ?_
    rintro e w7 ⟨rfl, hb7⟩
    have A0 := A0.ext hb7
    have V := Lib.hid (V.out.ext hb7)
    have U := Lib.hid (U.out.ext hb7)
    have E := ext_trans E hb7
    clear hb7
    rw [show p.verdict (l.take k) y = 2 by have := Hbk.out; unfold Pl.brokenAt at this; rw [hy.out]; exact of_decide_eq_true this]
    go_wp2_with fail
    refine hK.out _ _ ?_ (fun hHeld => ?_)
    · exact ⟨A0.cell0 rfl, A0.cell0 rfl⟩
    clear hK K'
    try simp only [Act.put, List.setIfInBounds_toArray, List.set_cons_zero, List.set_cons_succ]
    refine wpAnyH_take (i := 6) (v := ?_) rfl (by kernel_rfl) (by kernel_rfl) (by kernel_rfl) (fun _ _ _ h => h) (Or.inl ⟨by rfl, fun w' hS' => ?_⟩) (by assumption) ?_
    rotate_left
    · (try dsimp only at hS'); go_simp; (try rw [if_pos (by omega)]); try with_reducible rfl
    try simp only [Act.put, List.getElem_toArray, List.getElem_cons_zero, List.getElem_cons_succ, List.setIfInBounds_toArray, List.set_cons_zero, List.set_cons_succ]
    refine wpAnyH_take (i := 7) (v := ?_) rfl (by kernel_rfl) (by kernel_rfl) (by kernel_rfl) (fun _ _ _ h => h) (Or.inl ⟨by rfl, fun w' hS' => ?_⟩) (by assumption) ?_
    rotate_left
    · (try dsimp only at hS'); go_simp; (try rw [if_pos (by omega)]); try with_reducible rfl
    try simp only [Act.put, List.getElem_toArray, List.getElem_cons_zero, List.getElem_cons_succ, List.setIfInBounds_toArray, List.set_cons_zero, List.set_cons_succ]
    refine wpAnyH_done (by kernel_rfl) ?_ _
    try simp only [Act.put, List.setIfInBounds_toArray, List.set_cons_zero, List.set_cons_succ]
    obtain ⟨rcA0, rzA0⟩ := (A0).rules; have rlA0 := (A0).lt
    by_cases hk1 : 0 < k
    · have hk1i : (0 : Int) < (k : Int) := by omega
      clear rcA0 rzA0 rlA0
      obtain ⟨q, hq⟩ : ∃ q, Hid (q = k - 1) := ⟨_, rfl⟩
      have hqN : q ≤ N := by have := hq.out; omega
      obtain ⟨y2, hy2⟩ : ∃ x, Hid (x = lastT (l.take q)) := ⟨_, rfl⟩
      have hlt2 := last_take (l := l) (k := q) (by rw [← hN.out]; exact hqN)
      rw [← hy2.out] at hlt2
      have Hlt2 := Lib.hid hlt2
      clear hlt2
      go_upto_if 58 with fail
      go_cut [9] (fun v5 wx => v5 = .int .i64 y2 ∧ wx = w7)
      case first =>
        by_cases hN0 : 1 < k
        · have hN0i : (1 : Int) < (k : Int) := by omega
          obtain ⟨gq, ha, hgq, -, cy⟩ := U.out.atA (j := k - 2) (by rw [← hN.out]; omega)
          subst ha
          rw [show (hA l (k - 2)).tm = y2 by rw [Hlt2.out, if_neg (by have := hq.out; omega), hq.out]; rfl] at cy
          have hk2 : (k : Int) - 2 = ((k - 2 : Nat) : Int) := by omega
          have hk2N : k - 2 < N := by omega
          have hk2i : 0 ≤ (k : Int) - 2 := by omega
          have hk2M : (k : Int) - 2 < (N : Int) := by omega
          have hk2n : ((k : Int) - 2).toNat = k - 2 := by omega
          go_wp2_with fail
          go_meet
          exact ⟨rfl, rfl⟩
        · have hN0i : ¬ (1 : Int) < (k : Int) := by omega
          have hy0 : y2 = 0 := by rw [Hlt2.out, if_pos (by have := hq.out; omega)]
          go_wp2_with fail
          go_meet
          exact ⟨by rw [hy0], rfl⟩
      rename World => wt
      obtain ⟨rfl, rfl⟩ := hcut
      obtain ⟨rcA0, rzA0⟩ := (A0).rules; have rlA0 := (A0).lt
      have hk3 : (k : Int) - 1 = (q : Int) := by have := hq.out; omega
      have hk3c : q ≤ c2 := by omega
      have hk3ci : (q : Int) ≤ (c2 : Int) := by omega
      have hk3w : IntKind.i64.wrap (q : Int) = (q : Int) := IntWalk.i64_in _ (by omega)
      go_wp2_with fail
      clear rcA0 rzA0 rlA0
      refine wp_region_held_drew (S := fun w' => w'.cell? ⟨w1.heap.size, 0, none⟩ = some (.int .i64 p.pts) ∧ w'.cell? ⟨w1.heap.size, 1, none⟩ = some (.slice a1 p.bs.length c1)) (by kernel_rfl) ?_ (fun hHeld => ?_)
      · exact ⟨A0.cell0 rfl, A0.cell0 rfl⟩
      obtain ⟨d8, hd8⟩ : ∃ d, Hid (d = wt.drew) := ⟨_, rfl⟩
      have hb8 : Below wt.heap.size wt d8 := by rw [hd8.out]; exact ext_drew (ext_refl _)
      rw [← hd8.out] at hHeld ⊢
      have A0 := A0.ext hb8
      have V := Lib.hid (V.out.ext hb8)
      have U := Lib.hid (U.out.ext hb8)
      have E := ext_trans E hb8
      clear hb8
      try simp only [Act.put, List.setIfInBounds_toArray, List.set_cons_zero, List.set_cons_succ]
      refine wpAnyH_take (i := 0) (v := ?_) rfl (by kernel_rfl) (by kernel_rfl) (by kernel_rfl) (fun _ _ _ h => h) (Or.inl ⟨by rfl, fun w' hS' => ?_⟩) (by assumption) ?_
      rotate_left
      · (try dsimp only at hS'); go_simp; (try rw [if_pos (by omega)]); try with_reducible rfl
      try simp only [Act.put, List.getElem_toArray, List.getElem_cons_zero, List.getElem_cons_succ, List.setIfInBounds_toArray, List.set_cons_zero, List.set_cons_succ]
      refine wpAnyH_take (i := 1) (v := ?_) rfl (by kernel_rfl) (by kernel_rfl) (by kernel_rfl) (fun _ _ _ h => h) (Or.inl ⟨by rfl, fun w' hS' => ?_⟩) (by assumption) ?_
      rotate_left
      · (try dsimp only at hS'); go_simp; (try rw [if_pos (by omega)]); try with_reducible rfl
      try simp only [Act.put, List.getElem_toArray, List.getElem_cons_zero, List.getElem_cons_succ, List.setIfInBounds_toArray, List.set_cons_zero, List.set_cons_succ]
      refine wpAnyH_take (i := 2) (v := ?_) rfl (by kernel_rfl) (by kernel_rfl) (by kernel_rfl) (fun _ _ _ h => h) (Or.inl ⟨by rfl, fun w' hS' => ?_⟩) (by assumption) ?_
      rotate_left
      · (try dsimp only at hS'); go_simp; (try rw [if_pos (by omega)]); try with_reducible rfl
      try simp only [Act.put, List.getElem_toArray, List.getElem_cons_zero, List.getElem_cons_succ, List.setIfInBounds_toArray, List.set_cons_zero, List.set_cons_succ]
      refine wpAnyH_take (i := 3) (v := ?_) rfl (by kernel_rfl) (by kernel_rfl) (by kernel_rfl) (fun _ _ _ h => h) (Or.inl ⟨by rfl, fun w' hS' => ?_⟩) (by assumption) ?_
      rotate_left
      · (try dsimp only at hS'); go_simp; (try rw [if_pos (by omega)]); try with_reducible rfl
      try simp only [Act.put, List.getElem_toArray, List.getElem_cons_zero, List.getElem_cons_succ, List.setIfInBounds_toArray, List.set_cons_zero, List.set_cons_succ]
      refine wpAnyH_take (i := 4) (v := ?_) rfl (by kernel_rfl) (by kernel_rfl) (by kernel_rfl) (fun _ _ _ h => h) (Or.inl ⟨by rfl, fun w' hS' => ?_⟩) (by assumption) ?_
      rotate_left
      · (try dsimp only at hS'); go_simp; (try rw [if_pos (by omega)]); try with_reducible rfl
      try simp only [Act.put, List.getElem_toArray, List.getElem_cons_zero, List.getElem_cons_succ, List.setIfInBounds_toArray, List.set_cons_zero, List.set_cons_succ]
      refine wpAnyH_take (i := 5) (v := ?_) rfl (by kernel_rfl) (by kernel_rfl) (by kernel_rfl) (fun _ _ _ h => h) (Or.inl ⟨by rfl, fun w' hS' => ?_⟩) (by assumption) ?_
      rotate_left
      · (try dsimp only at hS'); go_simp; (try rw [if_pos (by omega)]); try with_reducible rfl
      try simp only [Act.put, List.getElem_toArray, List.getElem_cons_zero, List.getElem_cons_succ, List.setIfInBounds_toArray, List.set_cons_zero, List.set_cons_succ]
      refine wpAnyH_ready (rs := [6]) (by kernel_rfl) (by simp) ?_
      refine AllReadyH.cons rfl (fun K' hK => ?_) AllReadyH.nil
      refine if_yes (by rfl) ?_
      try simp only [Act.put, List.getElem_toArray, List.getElem_cons_zero, List.getElem_cons_succ, List.setIfInBounds_toArray, List.set_cons_zero, List.set_cons_succ]
      go_simp
      refine (impl_VerdictOf p _ _ (l.take q) y2 _ (V.out.base (Nat.zero_le _)) (Hps.takeK (n := N) (U.out.base (Nat.zero_le _)) (by rw [← hN.out]; exact hqN)) (by rw [List.length_take]; omega)).mono ?_
      rintro e w9 ⟨rfl, hb9⟩
      have A0 := A0.ext hb9
      have V := Lib.hid (V.out.ext hb9)
      have U := Lib.hid (U.out.ext hb9)
      have E := ext_trans E hb9
      clear hb9
      obtain ⟨v, hv⟩ : ∃ v, Hid (v = p.verdict (l.take q) y2) := ⟨_, rfl⟩
      rw [← hv.out]
      have hvb : (v == 2) = false := by
        have := Hb0.out q (by have := hq.out; omega)
        unfold Pl.brokenAt at this
        have h2 := of_decide_eq_false this
        rw [← hy2.out, ← hv.out] at h2
        simp [h2]
      go_wp2_with fail
      refine hK.out _ _ ?_ (fun hHeld => ?_)
      · exact ⟨A0.cell0 rfl, A0.cell0 rfl⟩
      clear hK K'
      try simp only [Act.put, List.setIfInBounds_toArray, List.set_cons_zero, List.set_cons_succ]
      refine wpAnyH_take (i := 7) (v := ?_) rfl (by kernel_rfl) (by kernel_rfl) (by kernel_rfl) (fun _ _ _ h => h) (Or.inl ⟨by rfl, fun w' hS' => ?_⟩) (by assumption) ?_
      rotate_left
      · (try dsimp only at hS'); go_simp; (try rw [if_pos (by omega)]); try with_reducible rfl
      try simp only [Act.put, List.getElem_toArray, List.getElem_cons_zero, List.getElem_cons_succ, List.setIfInBounds_toArray, List.set_cons_zero, List.set_cons_succ]
      refine wpAnyH_done (by kernel_rfl) ?_ _
      try simp only [Act.put, List.setIfInBounds_toArray, List.set_cons_zero, List.set_cons_succ]
      obtain ⟨rcA0, rzA0⟩ := (A0).rules; have rlA0 := (A0).lt
      go_wp2_with fail
      go_ret
      exact ⟨rfl, E⟩
    · have hk1i : ¬ (0 : Int) < (k : Int) := by omega
      go_wp2_with fail
      go_ret
      exact ⟨rfl, E⟩
  · have Hb0 := Lib.hid hb0
    subst hzm
    clear hb0
    obtain ⟨y, hy⟩ : ∃ x, Hid (x = lastT (l.take N)) := ⟨_, rfl⟩
    have hlt := last_take (l := l) (k := N) (by rw [← hN.out]; exact Nat.le_refl _)
    rw [← hy.out] at hlt
    have Hlt := Lib.hid hlt
    clear hlt
    clear rcA0 rzA0 rlA0
    go_upto_if 41 with fail
    go_cut [7] (fun v5 wx => v5 = .int .i64 y ∧ wx = w5)
    case first =>
      by_cases hN0 : 0 < N
      · have hN0i : (0 : Int) < (N : Int) := by omega
        obtain ⟨gq, ha, hgq, -, cy⟩ := U.out.atA (j := N - 1) (by rw [← hN.out]; omega)
        subst ha
        rw [show (hA l (N - 1)).tm = y by rw [Hlt.out, if_neg (by omega)]] at cy
        have hk1 : (N : Int) - 1 = ((N - 1 : Nat) : Int) := by omega
        have hk1N : N - 1 < N := by omega
        have hk1i : 0 ≤ (N : Int) - 1 := by omega
        have hk1M : (N : Int) - 1 < (N : Int) := by omega
        have hk1n : ((N : Int) - 1).toNat = N - 1 := by omega
        go_wp2_with fail
        go_meet
        exact ⟨rfl, rfl⟩
      · have hN0i : ¬ (0 : Int) < (N : Int) := by omega
        have hy0 : y = 0 := by rw [Hlt.out, if_pos (by omega)]
        go_wp2_with fail
        go_meet
        exact ⟨by rw [hy0], rfl⟩
    rename World => wt
    obtain ⟨rfl, rfl⟩ := hcut
    obtain ⟨rcA0, rzA0⟩ := (A0).rules; have rlA0 := (A0).lt
    have hkcl : N ≤ c2 := by omega
    have hkcli : (N : Int) ≤ (c2 : Int) := by omega
    go_wp2_with fail
    clear rcA0 rzA0 rlA0
    refine wp_region_held_drew (S := fun w' => w'.cell? ⟨w1.heap.size, 0, none⟩ = some (.int .i64 p.pts) ∧ w'.cell? ⟨w1.heap.size, 1, none⟩ = some (.slice a1 p.bs.length c1)) (by kernel_rfl) ?_ (fun hHeld => ?_)
    · exact ⟨A0.cell0 rfl, A0.cell0 rfl⟩
    obtain ⟨d6, hd6⟩ : ∃ d, Hid (d = wt.drew) := ⟨_, rfl⟩
    have hb6 : Below wt.heap.size wt d6 := by rw [hd6.out]; exact ext_drew (ext_refl _)
    rw [← hd6.out] at hHeld ⊢
    have A0 := A0.ext hb6
    have V := Lib.hid (V.out.ext hb6)
    have U := Lib.hid (U.out.ext hb6)
    have E := ext_trans E hb6
    clear hb6
    try simp only [Act.put, List.setIfInBounds_toArray, List.set_cons_zero, List.set_cons_succ]
    refine wpAnyH_take (i := 0) (v := ?_) rfl (by kernel_rfl) (by kernel_rfl) (by kernel_rfl) (fun _ _ _ h => h) (Or.inl ⟨by rfl, fun w' hS' => ?_⟩) (by assumption) ?_
    rotate_left
    · (try dsimp only at hS'); go_simp; (try rw [if_pos (by omega)]); try with_reducible rfl
    try simp only [Act.put, List.getElem_toArray, List.getElem_cons_zero, List.getElem_cons_succ, List.setIfInBounds_toArray, List.set_cons_zero, List.set_cons_succ]
    refine wpAnyH_take (i := 1) (v := ?_) rfl (by kernel_rfl) (by kernel_rfl) (by kernel_rfl) (fun _ _ _ h => h) (Or.inl ⟨by rfl, fun w' hS' => ?_⟩) (by assumption) ?_
    rotate_left
    · (try dsimp only at hS'); go_simp; (try rw [if_pos (by omega)]); try with_reducible rfl
    try simp only [Act.put, List.getElem_toArray, List.getElem_cons_zero, List.getElem_cons_succ, List.setIfInBounds_toArray, List.set_cons_zero, List.set_cons_succ]
    refine wpAnyH_take (i := 2) (v := ?_) rfl (by kernel_rfl) (by kernel_rfl) (by kernel_rfl) (fun _ _ _ h => h) (Or.inl ⟨by rfl, fun w' hS' => ?_⟩) (by assumption) ?_
    rotate_left
    · (try dsimp only at hS'); go_simp; (try rw [if_pos (by omega)]); try with_reducible rfl
    try simp only [Act.put, List.getElem_toArray, List.getElem_cons_zero, List.getElem_cons_succ, List.setIfInBounds_toArray, List.set_cons_zero, List.set_cons_succ]
    refine wpAnyH_take (i := 3) (v := ?_) rfl (by kernel_rfl) (by kernel_rfl) (by kernel_rfl) (fun _ _ _ h => h) (Or.inl ⟨by rfl, fun w' hS' => ?_⟩) (by assumption) ?_
    rotate_left
    · (try dsimp only at hS'); go_simp; (try rw [if_pos (by omega)]); try with_reducible rfl
    try simp only [Act.put, List.getElem_toArray, List.getElem_cons_zero, List.getElem_cons_succ, List.setIfInBounds_toArray, List.set_cons_zero, List.set_cons_succ]
    refine wpAnyH_take (i := 4) (v := ?_) rfl (by kernel_rfl) (by kernel_rfl) (by kernel_rfl) (fun _ _ _ h => h) (Or.inl ⟨by rfl, fun w' hS' => ?_⟩) (by assumption) ?_
    rotate_left
    · (try dsimp only at hS'); go_simp; (try rw [if_pos (by omega)]); try with_reducible rfl
    try simp only [Act.put, List.getElem_toArray, List.getElem_cons_zero, List.getElem_cons_succ, List.setIfInBounds_toArray, List.set_cons_zero, List.set_cons_succ]
    refine wpAnyH_ready (rs := [5]) (by kernel_rfl) (by simp) ?_
    refine AllReadyH.cons rfl (fun K' hK => ?_) AllReadyH.nil
    refine if_yes (by rfl) ?_
    try simp only [Act.put, List.getElem_toArray, List.getElem_cons_zero, List.getElem_cons_succ, List.setIfInBounds_toArray, List.set_cons_zero, List.set_cons_succ]
    go_simp
    refine (impl_VerdictOf p _ _ (l.take N) y _ (V.out.base (Nat.zero_le _)) (Hps.takeK (n := N) (U.out.base (Nat.zero_le _)) (by rw [← hN.out]; exact Nat.le_refl _)) (by rw [List.length_take]; omega)).mono ?_
    rintro e w7 ⟨rfl, hb7⟩
    have A0 := A0.ext hb7
    have V := Lib.hid (V.out.ext hb7)
    have U := Lib.hid (U.out.ext hb7)
    have E := ext_trans E hb7
    clear hb7
    obtain ⟨v, hv⟩ : ∃ v, Hid (v = p.verdict (l.take N) y) := ⟨_, rfl⟩
    rw [← hv.out]
    have hvb : (v == 2) = false := by
      have := Hb0.out N (Nat.le_refl _)
      unfold Pl.brokenAt at this
      have h2 := of_decide_eq_false this
      rw [← hy.out, ← hv.out] at h2
      simp [h2]
    go_wp2_with fail
    refine hK.out _ _ ?_ (fun hHeld => ?_)
    · exact ⟨A0.cell0 rfl, A0.cell0 rfl⟩
    clear hK K'
    try simp only [Act.put, List.setIfInBounds_toArray, List.set_cons_zero, List.set_cons_succ]
    refine wpAnyH_take (i := 6) (v := ?_) rfl (by kernel_rfl) (by kernel_rfl) (by kernel_rfl) (fun _ _ _ h => h) (Or.inl ⟨by rfl, fun w' hS' => ?_⟩) (by assumption) ?_
    rotate_left
    · (try dsimp only at hS'); go_simp; (try rw [if_pos (by omega)]); try with_reducible rfl
    try simp only [Act.put, List.getElem_toArray, List.getElem_cons_zero, List.getElem_cons_succ, List.setIfInBounds_toArray, List.set_cons_zero, List.set_cons_succ]
    refine wpAnyH_take (i := 7) (v := ?_) rfl (by kernel_rfl) (by kernel_rfl) (by kernel_rfl) (fun _ _ _ h => h) (Or.inl ⟨by rfl, fun w' hS' => ?_⟩) (by assumption) ?_
    rotate_left
    · (try dsimp only at hS'); go_simp; (try rw [if_pos (by omega)]); try with_reducible rfl
    try simp only [Act.put, List.getElem_toArray, List.getElem_cons_zero, List.getElem_cons_succ, List.setIfInBounds_toArray, List.set_cons_zero, List.set_cons_succ]
    refine wpAnyH_done (by kernel_rfl) ?_ _
    try simp only [Act.put, List.setIfInBounds_toArray, List.set_cons_zero, List.set_cons_succ]
    obtain ⟨rcA0, rzA0⟩ := (A0).rules; have rlA0 := (A0).lt
    go_wp2_with fail
    go_ret
    exact ⟨rfl, E⟩
end Go.Proofs.Ytffcfambgcaikaa
