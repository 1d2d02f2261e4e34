/- The walk of FnNextOf: it returns true, whatever code came in. Condition: the bytes of the code can be read. -/
import Derived.Test.YtffcfambgcaikaaHeardD
import Derived.Test.YtffcfambgcaikaaWaitI
import Derived.Test.YtffcfambgcaikaaEndS
import Derived.Test.YtffcfambgcaikaaSame
namespace Go.Proofs.Ytffcfambgcaikaa
open Go.RowKit
set_option linter.unusedVariables false
set_option linter.unusedSimpArgs false
def OutHps (w : World) (L : List Hp) (v : Value) (wx : World) : Prop := Hps wx w.heap.size v L ∧ Below w.heap.size w wx
set_option maxRecDepth 100000 in
set_option maxHeartbeats 8000000 in
theorem walk_NextOf (a : Option Addr) (n cap : Nat) (w : World) (h : Byt w w.heap.size a n cap) :
    Calls Try.prog 3 #[.slice a n cap] w fun e w' => e = .returned (.bool true) ∧ Below w.heap.size w w' := by
  have H := Lib.hid h
  obtain ⟨hncap, hcap, -⟩ := id h
  clear h
  by_cases hbig : 1048576 < n
  · go_enter Try.func3, Try.ntmps3
    go_wp2_with fail
    go_ret
    exact ⟨rfl, ext_refl _⟩
  go_enter Try.func3, Try.ntmps3
  go_wp2_with fail
  refine (spec_DrawNextOf a n cap w H.out).mono ?_
  rintro e w1 ⟨v1, v2, p, l, rfl, hV, hU, hl16, hl6, h0, h7, htm, hb1⟩
  have E := hb1
  clear hb1
  obtain ⟨a1, c1, rfl, -⟩ := hV.open
  have V := Lib.hid hV
  clear hV
  obtain ⟨a2, c2, rfl, -⟩ := hU.open
  have U := Lib.hid hU
  clear hU
  go_upto_region 4 with fail
  obtain ⟨w2, hw2, A0, hs2, hb2⟩ := one_box w1 #[.int .i64 p.pts, .slice a1 p.bs.length c1] 25
  rw [← hw2.out]
  have V := Lib.hid (V.out.ext hb2)
  have U := Lib.hid (U.out.ext hb2)
  have E := ext_trans E hb2
  clear hb2
  have Htm := Lib.hid htm
  clear htm
  obtain ⟨N, hN⟩ : ∃ N, Hid (N = l.length) := ⟨_, rfl⟩
  rw [← hN.out] at hl6 U ⊢
  have hncl : N ≤ c2 ∧ c2 ≤ 9223372036854775807 := by obtain ⟨_, _, he, h1, h2, -⟩ := U.out.open; cases he; rw [hN.out]; exact ⟨h1, h2⟩
  obtain ⟨rcA0, rzA0⟩ := (A0).rules; have rlA0 := (A0).lt
  go_wp2_with fail
  obtain ⟨h, hh⟩ : ∃ h, Hid (h = p.next l) := ⟨_, rfl⟩
  obtain ⟨ok, hok⟩ : ∃ ok, Hid (ok = p.nextOk l) := ⟨_, rfl⟩
  refine (impl_NextOf p _ _ l _ (V.out.base (Nat.zero_le _)) (U.out.base (Nat.zero_le _)) (by rw [← hN.out]; omega)).mono ?_
  rintro e w3 ⟨rfl, hb3⟩
  clear rcA0 rzA0 rlA0
  have A0 := A0.ext hb3
  have V := Lib.hid (V.out.ext hb3)
  have U := Lib.hid (U.out.ext hb3)
  have E := ext_trans E hb3
  clear hb3
  rw [← hh.out, ← hok.out]
  unfold Hp.val
  go_upto_region 5 with fail
  obtain ⟨w4, hw4, A5, hs4, hb4⟩ := one_box w3 #[.int .i64 h.pt, .int .i64 h.tm] 30
  rw [← hw4.out]
  have A0 := A0.ext hb4
  have V := Lib.hid (V.out.ext hb4)
  have U := Lib.hid (U.out.ext hb4)
  have E := ext_trans E hb4
  clear hb4
  obtain ⟨rcA0, rzA0⟩ := (A0).rules; have rlA0 := (A0).lt
  obtain ⟨rcA5, rzA5⟩ := (A5).rules; have rlA5 := (A5).lt
  go_wp2_with fail
  refine (spec_NextOf p _ _ l _ (V.out.base (Nat.zero_le _)) (U.out.base (Nat.zero_le _)) (by rw [← hN.out]; omega)).mono ?_
  rintro e w5 ⟨rfl, hb5⟩
  clear rcA0 rzA0 rlA0 rcA5 rzA5 rlA5
  have A0 := A0.ext hb5
  have A5 := A5.ext hb5
  have V := Lib.hid (V.out.ext hb5)
  have U := Lib.hid (U.out.ext hb5)
  have E := ext_trans E hb5
  clear hb5
  rw [← hh.out, ← hok.out]
  unfold Hp.val
  go_upto_region 6 with fail
  obtain ⟨w6, hw6, A7, hs6, hb6⟩ := one_box w5 #[.int .i64 h.pt, .int .i64 h.tm] 30
  rw [← hw6.out]
  have A0 := A0.ext hb6
  have A5 := A5.ext hb6
  have V := Lib.hid (V.out.ext hb6)
  have U := Lib.hid (U.out.ext hb6)
  have E := ext_trans E hb6
  clear hb6
  obtain ⟨rcA0, rzA0⟩ := (A0).rules; have rlA0 := (A0).lt
  obtain ⟨rcA5, rzA5⟩ := (A5).rules; have rlA5 := (A5).lt
  obtain ⟨rcA7, rzA7⟩ := (A7).rules; have rlA7 := (A7).lt
  have hpp : (h.pt != h.pt) = false := by simp
  have htt : (h.tm != h.tm) = false := by simp
  cases ok
  · have hz : h = Hp.z := by rw [hh.out]; unfold Pl.next; rw [if_neg (by rw [← hok.out]; simp)]
    have h1 : (h.pt == 0) = true := by rw [hz]; rfl
    have h2 : (h.tm == 0) = true := by rw [hz]; rfl
    clear hz
    go_wp2_with fail
    refine (laws_alive _).mono ?_
    rintro e w7 ⟨rfl, hb7⟩
    clear rcA0 rzA0 rlA0 rcA5 rzA5 rlA5 rcA7 rzA7 rlA7
    have A0 := A0.ext hb7
    have A5 := A5.ext hb7
    have A7 := A7.ext hb7
    have V := Lib.hid (V.out.ext hb7)
    have U := Lib.hid (U.out.ext hb7)
    have E := ext_trans E hb7
    clear hb7
    go_wp2_with fail
    go_ret
    exact ⟨rfl, E⟩
  have hlaw := next_law hok.out.symm
  have hin := next_in hok.out.symm
  rw [← hh.out] at hlaw
  have Hin := Lib.hid hin
  have Hlaw := Lib.hid hlaw
  clear hin hlaw
  have HM : Hid ((l ++ [h]).length = N + 1) := by rw [List.length_append, hN.out]; exact Lib.hid rfl
  have hlN : Hid (l.length = N) := Lib.hid hN.out.symm
  go_upto_region 10 with fail
  clear rcA0 rzA0 rlA0 rcA5 rzA5 rlA5 rcA7 rzA7 rlA7
  obtain ⟨ws, hws⟩ : ∃ ws, ws = w6 := ⟨_, rfl⟩
  subst hws
  go_cut [9] (fun v9 wx => OutHps ws (l ++ [h]) v9 wx)
  case first =>
    refine wp_region_held_drew (S := fun w' => w'.cell? ⟨w3.heap.size, 0, none⟩ = some (Value.int .i64 h.pt) ∧ w'.cell? ⟨w3.heap.size, 1, none⟩ = some (Value.int .i64 h.tm)) (by kernel_rfl) ?_ (fun hHeld => ?_)
    · exact ⟨A5.drew.cell0 rfl, A5.drew.cell0 rfl⟩
    have X := ext_drew (ext_refl ws)
    obtain ⟨D, hD⟩ : ∃ D, Hid (D = ws.drew) := ⟨_, rfl⟩
    have qD : ws.heap.size ≤ D.heap.size := by rw [hD.out]; exact Nat.le_refl _
    rw [← hD.out] at X hHeld ⊢
    try simp only [Act.put, List.setIfInBounds_toArray, List.set_cons_zero, List.set_cons_succ]
    refine wpAnyH_take (i := 1) (v := ?_) rfl (by kernel_rfl) (by kernel_rfl) (by kernel_rfl) (fun _ _ _ h => h) (Or.inl ⟨by rfl, fun w' hS' => ?_⟩) (by assumption) ?_
    rotate_left
    · (try dsimp only at hS'); go_simp; (try rw [if_pos (by omega)]); try with_reducible rfl
    try simp only [Act.put, List.getElem_toArray, List.getElem_cons_zero, List.getElem_cons_succ, List.setIfInBounds_toArray, List.set_cons_zero, List.set_cons_succ]
    refine wpAnyH_take (i := 3) (v := ?_) rfl (by kernel_rfl) (by kernel_rfl) (by kernel_rfl) (fun _ _ _ h => h) (Or.inl ⟨by rfl, fun w' hS' => ?_⟩) (by assumption) ?_
    rotate_left
    · (try dsimp only at hS'); go_simp; (try rw [if_pos (by omega)]); try with_reducible rfl
    try simp only [Act.put, List.getElem_toArray, List.getElem_cons_zero, List.getElem_cons_succ, List.setIfInBounds_toArray, List.set_cons_zero, List.set_cons_succ]
    refine wpAnyH_ready (rs := [0, 4]) (by kernel_rfl) (by simp) ?_
    refine AllReadyH.cons rfl (fun K' hK => ?_) (AllReadyH.cons rfl (fun K' hK => ?_) AllReadyH.nil)
    · skip
      refine if_yes (by rfl) ?_
      try simp only [Act.put, List.setIfInBounds_toArray, List.set_cons_zero, List.set_cons_succ]
      go_simp
      obtain ⟨u1, hu1, Bu1, su1, eu1⟩ := one_box D #[] 30
      have TE : Hps u1 D.heap.size (.slice (some ⟨D.heap.size, 0, none⟩) 0 0) [] := Hps.ofBox Bu1 (Nat.le_refl _)
      rw [← hu1.out]
      have X := ext_trans X eu1
      obtain ⟨be, Hbe⟩ : ∃ b, Hid (b = D.heap.size) := ⟨_, rfl⟩
      rw [← Hbe.out] at TE ⊢
      have qbe : ws.heap.size ≤ be := by rw [Hbe.out]; exact qD
      have qu1 : ws.heap.size ≤ u1.heap.size := X.size
      have hbe2 : be ≤ u1.heap.size := Nat.le_of_lt (TE.lt be rfl).2
      have TEl : be < u1.heap.size := (TE.lt _ rfl).2
      refine hK.out _ _ ?_ (fun hHeld => ?_)
      · exact ⟨(A5.ext X).cell0 rfl, (A5.ext X).cell0 rfl⟩
      clear hK K'
      try simp only [Act.put, List.setIfInBounds_toArray, List.set_cons_zero, List.set_cons_succ]
      refine wpAnyH_ready (rs := [2, 4]) (by kernel_rfl) (by simp) ?_
      refine AllReadyH.cons rfl (fun K' hK => ?_) (AllReadyH.cons rfl (fun K' hK => ?_) AllReadyH.nil)
      · skip
        refine if_yes (by rfl) ?_
        try simp only [Act.put, List.setIfInBounds_toArray, List.set_cons_zero, List.set_cons_succ]
        refine wp_appHp _ (.tmp 47) (.tmp 48) rfl be 0 (.slice (some ⟨be, 0, none⟩) 0 0) [] rfl TE (.slice a2 N c2) (l) rfl ((U.out.base (Nat.zero_le _)).ext X) (by have := hlN.out; simp; omega) (by omega) ?_
        intro v' u2 hv' hg'
        rw [List.nil_append] at hv'
        obtain ⟨an, cn, rfl, -⟩ := hv'.open
        rw [hlN.out] at hv'
        try rw [hlN.out]
        have TN := hv'
        have X := ext_grown X hg' (fun q hq => by simp [Value.ownBlock] at hq; omega)
        have qu2 : ws.heap.size ≤ u2.heap.size := X.size
        have hbe2 : be ≤ u2.heap.size := by have := hg'.size; omega
        clear hg' hv' TE
        refine hK.out _ _ ?_ (fun hHeld => ?_)
        · exact ⟨(A5.ext X).cell0 rfl, (A5.ext X).cell0 rfl⟩
        clear hK K'
        try simp only [Act.put, List.setIfInBounds_toArray, List.set_cons_zero, List.set_cons_succ]
        refine wpAnyH_ready (rs := [4]) (by kernel_rfl) (by simp) ?_
        refine AllReadyH.cons rfl (fun K' hK => ?_) AllReadyH.nil
        refine if_yes (by rfl) ?_
        try simp only [Act.put, List.setIfInBounds_toArray, List.set_cons_zero, List.set_cons_succ]
        go_simp
        obtain ⟨u3, hu3, Bu3, su3, eu3⟩ := one_box u2 #[.int .i64 h.pt, .int .i64 h.tm] 30
        have TL : Hps u3 u2.heap.size (.slice (some ⟨u2.heap.size, 0, none⟩) 1 1) [h] := Hps.ofBox1 (b := h) Bu3 (Nat.le_refl _)
        rw [← hu3.out]
        have X := ext_trans X eu3
        have TN := TN.ext eu3
        obtain ⟨bl, Hbl⟩ : ∃ b, Hid (b = u2.heap.size) := ⟨_, rfl⟩
        rw [← Hbl.out] at TL ⊢
        have qbl : ws.heap.size ≤ bl := by rw [Hbl.out]; exact qu2
        have qu3 : ws.heap.size ≤ u3.heap.size := X.size
        have hbe2 : be ≤ u3.heap.size := by have := (eu3).size; omega
        refine hK.out _ _ ?_ (fun hHeld => ?_)
        · exact ⟨(A5.ext X).cell0 rfl, (A5.ext X).cell0 rfl⟩
        clear hK K'
        try simp only [Act.put, List.setIfInBounds_toArray, List.set_cons_zero, List.set_cons_succ]
        refine wpAnyH_ready (rs := [5]) (by kernel_rfl) (by simp) ?_
        refine AllReadyH.cons rfl (fun K' hK => ?_) AllReadyH.nil
        refine if_yes (by rfl) ?_
        try simp only [Act.put, List.setIfInBounds_toArray, List.set_cons_zero, List.set_cons_succ]
        refine wp_appHp _ (.tmp 49) (.tmp 51) rfl be 0 (.slice an N cn) (l) rfl TN (.slice (some ⟨bl, 0, none⟩) 1 1) [h] rfl (TL.base (Nat.zero_le _)) (by have := hlN.out; simp; omega) (by omega) ?_
        intro v' u4 hv' hg'
        have X := ext_grown X hg' (fun q hq => by have := (TN.lt q hq).1; omega)
        have TM := hv'.base qbe
        clear hg' hv'
        refine hK.out _ _ ?_ (fun hHeld => ?_)
        · exact ⟨(A5.ext X).cell0 rfl, (A5.ext X).cell0 rfl⟩
        clear hK K'
        try simp only [Act.put, List.setIfInBounds_toArray, List.set_cons_zero, List.set_cons_succ]
        refine wpAnyH_take (i := 6) (v := ?_) rfl (by kernel_rfl) (by kernel_rfl) (by kernel_rfl) (fun _ _ _ h => h) (Or.inl ⟨by rfl, fun w' hS' => ?_⟩) (by assumption) ?_
        rotate_left
        · (try dsimp only at hS'); go_simp; (try rw [if_pos (by omega)]); try with_reducible rfl
        try simp only [Act.put, List.getElem_toArray, List.getElem_cons_zero, List.getElem_cons_succ, List.setIfInBounds_toArray, List.set_cons_zero, List.set_cons_succ]
        refine wpAnyH_done (by kernel_rfl) ?_ _
        try simp only [Act.put, List.setIfInBounds_toArray, List.set_cons_zero, List.set_cons_succ]
        go_wp2_with fail
        go_meet
        exact ⟨TM, X⟩
      · skip
        refine if_yes (by rfl) ?_
        try simp only [Act.put, List.setIfInBounds_toArray, List.set_cons_zero, List.set_cons_succ]
        go_simp
        obtain ⟨u5, hu5, Bu5, su5, eu5⟩ := one_box u1 #[.int .i64 h.pt, .int .i64 h.tm] 30
        have TL : Hps u5 u1.heap.size (.slice (some ⟨u1.heap.size, 0, none⟩) 1 1) [h] := Hps.ofBox1 (b := h) Bu5 (Nat.le_refl _)
        rw [← hu5.out]
        have X := ext_trans X eu5
        have TE := TE.ext eu5
        obtain ⟨bl, Hbl⟩ : ∃ b, Hid (b = u1.heap.size) := ⟨_, rfl⟩
        rw [← Hbl.out] at TL ⊢
        have qbl : ws.heap.size ≤ bl := by rw [Hbl.out]; exact qu1
        have qu5 : ws.heap.size ≤ u5.heap.size := X.size
        have hbe2 : be ≤ u5.heap.size := by have := (eu5).size; omega
        have hne : bl ≠ be := by have := TEl; rw [Hbl.out]; omega
        refine hK.out _ _ ?_ (fun hHeld => ?_)
        · exact ⟨(A5.ext X).cell0 rfl, (A5.ext X).cell0 rfl⟩
        clear hK K'
        try simp only [Act.put, List.setIfInBounds_toArray, List.set_cons_zero, List.set_cons_succ]
        refine wpAnyH_ready (rs := [2]) (by kernel_rfl) (by simp) ?_
        refine AllReadyH.cons rfl (fun K' hK => ?_) AllReadyH.nil
        refine if_yes (by rfl) ?_
        try simp only [Act.put, List.setIfInBounds_toArray, List.set_cons_zero, List.set_cons_succ]
        refine wp_appHp _ (.tmp 47) (.tmp 48) rfl be 0 (.slice (some ⟨be, 0, none⟩) 0 0) [] rfl TE (.slice a2 N c2) (l) rfl ((U.out.base (Nat.zero_le _)).ext X) (by have := hlN.out; simp; omega) (by omega) ?_
        intro v' u6 hv' hg'
        rw [List.nil_append] at hv'
        obtain ⟨an, cn, rfl, -⟩ := hv'.open
        rw [hlN.out] at hv'
        try rw [hlN.out]
        have TN := hv'
        have TL := TL.far hg' (fun q hq e => by simp [Value.ownBlock] at hq e; omega)
        have X := ext_grown X hg' (fun q hq => by simp [Value.ownBlock] at hq; omega)
        have qu6 : ws.heap.size ≤ u6.heap.size := X.size
        have hbe2 : be ≤ u6.heap.size := by have := hg'.size; omega
        clear hg' hv' TE
        refine hK.out _ _ ?_ (fun hHeld => ?_)
        · exact ⟨(A5.ext X).cell0 rfl, (A5.ext X).cell0 rfl⟩
        clear hK K'
        try simp only [Act.put, List.setIfInBounds_toArray, List.set_cons_zero, List.set_cons_succ]
        refine wpAnyH_ready (rs := [5]) (by kernel_rfl) (by simp) ?_
        refine AllReadyH.cons rfl (fun K' hK => ?_) AllReadyH.nil
        refine if_yes (by rfl) ?_
        try simp only [Act.put, List.setIfInBounds_toArray, List.set_cons_zero, List.set_cons_succ]
        refine wp_appHp _ (.tmp 49) (.tmp 51) rfl be 0 (.slice an N cn) (l) rfl TN (.slice (some ⟨bl, 0, none⟩) 1 1) [h] rfl (TL.base (Nat.zero_le _)) (by have := hlN.out; simp; omega) (by omega) ?_
        intro v' u7 hv' hg'
        have X := ext_grown X hg' (fun q hq => by have := (TN.lt q hq).1; omega)
        have TM := hv'.base qbe
        clear hg' hv'
        refine hK.out _ _ ?_ (fun hHeld => ?_)
        · exact ⟨(A5.ext X).cell0 rfl, (A5.ext X).cell0 rfl⟩
        clear hK K'
        try simp only [Act.put, List.setIfInBounds_toArray, List.set_cons_zero, List.set_cons_succ]
        refine wpAnyH_take (i := 6) (v := ?_) rfl (by kernel_rfl) (by kernel_rfl) (by kernel_rfl) (fun _ _ _ h => h) (Or.inl ⟨by rfl, fun w' hS' => ?_⟩) (by assumption) ?_
        rotate_left
        · (try dsimp only at hS'); go_simp; (try rw [if_pos (by omega)]); try with_reducible rfl
        try simp only [Act.put, List.getElem_toArray, List.getElem_cons_zero, List.getElem_cons_succ, List.setIfInBounds_toArray, List.set_cons_zero, List.set_cons_succ]
        refine wpAnyH_done (by kernel_rfl) ?_ _
        try simp only [Act.put, List.setIfInBounds_toArray, List.set_cons_zero, List.set_cons_succ]
        go_wp2_with fail
        go_meet
        exact ⟨TM, X⟩
    · skip
      refine if_yes (by rfl) ?_
      try simp only [Act.put, List.setIfInBounds_toArray, List.set_cons_zero, List.set_cons_succ]
      go_simp
      obtain ⟨u8, hu8, Bu8, su8, eu8⟩ := one_box D #[.int .i64 h.pt, .int .i64 h.tm] 30
      have TL : Hps u8 D.heap.size (.slice (some ⟨D.heap.size, 0, none⟩) 1 1) [h] := Hps.ofBox1 (b := h) Bu8 (Nat.le_refl _)
      rw [← hu8.out]
      have X := ext_trans X eu8
      obtain ⟨bl, Hbl⟩ : ∃ b, Hid (b = D.heap.size) := ⟨_, rfl⟩
      rw [← Hbl.out] at TL ⊢
      have qbl : ws.heap.size ≤ bl := by rw [Hbl.out]; exact qD
      have qu8 : ws.heap.size ≤ u8.heap.size := X.size
      have TLl : bl < u8.heap.size := (TL.lt _ rfl).2
      refine hK.out _ _ ?_ (fun hHeld => ?_)
      · exact ⟨(A5.ext X).cell0 rfl, (A5.ext X).cell0 rfl⟩
      clear hK K'
      try simp only [Act.put, List.setIfInBounds_toArray, List.set_cons_zero, List.set_cons_succ]
      refine wpAnyH_ready (rs := [0]) (by kernel_rfl) (by simp) ?_
      refine AllReadyH.cons rfl (fun K' hK => ?_) AllReadyH.nil
      refine if_yes (by rfl) ?_
      try simp only [Act.put, List.setIfInBounds_toArray, List.set_cons_zero, List.set_cons_succ]
      go_simp
      obtain ⟨u9, hu9, Bu9, su9, eu9⟩ := one_box u8 #[] 30
      have TE : Hps u9 u8.heap.size (.slice (some ⟨u8.heap.size, 0, none⟩) 0 0) [] := Hps.ofBox Bu9 (Nat.le_refl _)
      rw [← hu9.out]
      have X := ext_trans X eu9
      have TL := TL.ext eu9
      obtain ⟨be, Hbe⟩ : ∃ b, Hid (b = u8.heap.size) := ⟨_, rfl⟩
      rw [← Hbe.out] at TE ⊢
      have qbe : ws.heap.size ≤ be := by rw [Hbe.out]; exact qu8
      have qu9 : ws.heap.size ≤ u9.heap.size := X.size
      have hbe2 : be ≤ u9.heap.size := Nat.le_of_lt (TE.lt be rfl).2
      have hne : bl ≠ be := by have := TLl; rw [Hbe.out]; omega
      refine hK.out _ _ ?_ (fun hHeld => ?_)
      · exact ⟨(A5.ext X).cell0 rfl, (A5.ext X).cell0 rfl⟩
      clear hK K'
      try simp only [Act.put, List.setIfInBounds_toArray, List.set_cons_zero, List.set_cons_succ]
      refine wpAnyH_ready (rs := [2]) (by kernel_rfl) (by simp) ?_
      refine AllReadyH.cons rfl (fun K' hK => ?_) AllReadyH.nil
      refine if_yes (by rfl) ?_
      try simp only [Act.put, List.setIfInBounds_toArray, List.set_cons_zero, List.set_cons_succ]
      refine wp_appHp _ (.tmp 47) (.tmp 48) rfl be 0 (.slice (some ⟨be, 0, none⟩) 0 0) [] rfl TE (.slice a2 N c2) (l) rfl ((U.out.base (Nat.zero_le _)).ext X) (by have := hlN.out; simp; omega) (by omega) ?_
      intro v' u10 hv' hg'
      rw [List.nil_append] at hv'
      obtain ⟨an, cn, rfl, -⟩ := hv'.open
      rw [hlN.out] at hv'
      try rw [hlN.out]
      have TN := hv'
      have TL := TL.far hg' (fun q hq e => by simp [Value.ownBlock] at hq e; omega)
      have X := ext_grown X hg' (fun q hq => by simp [Value.ownBlock] at hq; omega)
      have qu10 : ws.heap.size ≤ u10.heap.size := X.size
      have hbe2 : be ≤ u10.heap.size := by have := hg'.size; omega
      clear hg' hv' TE
      refine hK.out _ _ ?_ (fun hHeld => ?_)
      · exact ⟨(A5.ext X).cell0 rfl, (A5.ext X).cell0 rfl⟩
      clear hK K'
      try simp only [Act.put, List.setIfInBounds_toArray, List.set_cons_zero, List.set_cons_succ]
      refine wpAnyH_ready (rs := [5]) (by kernel_rfl) (by simp) ?_
      refine AllReadyH.cons rfl (fun K' hK => ?_) AllReadyH.nil
      refine if_yes (by rfl) ?_
      try simp only [Act.put, List.setIfInBounds_toArray, List.set_cons_zero, List.set_cons_succ]
      refine wp_appHp _ (.tmp 49) (.tmp 51) rfl be 0 (.slice an N cn) (l) rfl TN (.slice (some ⟨bl, 0, none⟩) 1 1) [h] rfl (TL.base (Nat.zero_le _)) (by have := hlN.out; simp; omega) (by omega) ?_
      intro v' u11 hv' hg'
      have X := ext_grown X hg' (fun q hq => by have := (TN.lt q hq).1; omega)
      have TM := hv'.base qbe
      clear hg' hv'
      refine hK.out _ _ ?_ (fun hHeld => ?_)
      · exact ⟨(A5.ext X).cell0 rfl, (A5.ext X).cell0 rfl⟩
      clear hK K'
      try simp only [Act.put, List.setIfInBounds_toArray, List.set_cons_zero, List.set_cons_succ]
      refine wpAnyH_take (i := 6) (v := ?_) rfl (by kernel_rfl) (by kernel_rfl) (by kernel_rfl) (fun _ _ _ h => h) (Or.inl ⟨by rfl, fun w' hS' => ?_⟩) (by assumption) ?_
      rotate_left
      · (try dsimp only at hS'); go_simp; (try rw [if_pos (by omega)]); try with_reducible rfl
      try simp only [Act.put, List.getElem_toArray, List.getElem_cons_zero, List.getElem_cons_succ, List.setIfInBounds_toArray, List.set_cons_zero, List.set_cons_succ]
      refine wpAnyH_done (by kernel_rfl) ?_ _
      try simp only [Act.put, List.setIfInBounds_toArray, List.set_cons_zero, List.set_cons_succ]
      go_wp2_with fail
      go_meet
      exact ⟨TM, X⟩
  rename World => wt
  obtain ⟨hM, hbm⟩ := hcut
  have A0 := A0.ext hbm
  have A5 := A5.ext hbm
  have A7 := A7.ext hbm
  have V := Lib.hid (V.out.ext hbm)
  have U := Lib.hid (U.out.ext hbm)
  have E := ext_trans E hbm
  clear hbm
  have M := Lib.hid hM
  obtain ⟨a9, c9, rfl, -⟩ := hM.open
  rw [HM.out] at M ⊢
  clear hM
  obtain ⟨rcA0, rzA0⟩ := (A0).rules; have rlA0 := (A0).lt
  obtain ⟨rcA5, rzA5⟩ := (A5).rules; have rlA5 := (A5).lt
  go_wp2_with fail
  obtain ⟨v, hv⟩ : ∃ v, Hid (v = p.verdict (l ++ [h]) h.tm) := ⟨_, rfl⟩
  refine (impl_VerdictOf p _ _ (l ++ [h]) h.tm _ (V.out.base (Nat.zero_le _)) (M.out.base (Nat.zero_le _)) (by rw [HM.out]; omega)).mono ?_
  rintro e w7 ⟨rfl, hb7⟩
  clear rcA0 rzA0 rlA0 rcA5 rzA5 rlA5
  have A0 := A0.ext hb7
  have A5 := A5.ext hb7
  have A7 := A7.ext hb7
  have V := Lib.hid (V.out.ext hb7)
  have U := Lib.hid (U.out.ext hb7)
  have M := Lib.hid (M.out.ext hb7)
  have E := ext_trans E hb7
  clear hb7
  rw [← hv.out]
  have hvu : Hid (v = 0 ∨ v = 1) := by
    obtain ⟨m1, m2, m3, m4, -⟩ := Hlaw.out
    have m5 : h.tm ≤ 2000 := by omega
    have hls : lastT (l ++ [h]) = h.tm := last_snoc l h
    have hval := verdict_val p (l ++ [h]) h.tm
    rw [← hv.out] at hval
    have hl := last_le m1 h.tm (by rw [hls]; exact Int.le_refl _) m5
    rw [← hv.out, m2] at hl
    have hnm : v ≠ -1 := fun e => (verdict_in.1.1 (hv.out.symm.trans e)) ⟨m1, by rw [hls]; exact Int.le_refl _, m5⟩
    have hn2 : v ≠ 2 := fun e => by have := hl.1 e; cases this
    refine Lib.hid ?_
    rcases hval with e | e | e | e
    · exact absurd e hnm
    · exact .inl e
    · exact .inr e
    · exact absurd e hn2
  have hwt : Hid (p.waitU l = min (p.dead l) 2000) := Lib.hid (wait_yes Hin.out.1 Hin.out.2.1)
  have hle : decide (h.tm ≤ p.waitU l) = true := by rw [hwt.out]; exact decide_eq_true Hlaw.out.2.2.1
  have hle2 : h.tm ≤ p.waitU l := of_decide_eq_true hle
  obtain ⟨z, hz⟩ : ∃ z, Hid (z = p.waitU l) := ⟨_, rfl⟩
  rw [← hz.out] at hle hle2
  rcases hvu.out with hv1 | hv1
  · subst hv1
    obtain ⟨rcA0, rzA0⟩ := (A0).rules; have rlA0 := (A0).lt
    obtain ⟨rcA5, rzA5⟩ := (A5).rules; have rlA5 := (A5).lt
    go_upto_region 12 with fail
    clear rcA0 rzA0 rlA0 rcA5 rzA5 rlA5
    refine wp_region_held_drew (S := fun w' => w'.cell? ⟨w1.heap.size, 0, none⟩ = some (.int .i64 p.pts) ∧ w'.cell? ⟨w1.heap.size, 1, none⟩ = some (.slice a1 p.bs.length c1) ∧ w'.cell? ⟨w3.heap.size, 0, none⟩ = some (.int .i64 h.pt) ∧ w'.cell? ⟨w3.heap.size, 1, none⟩ = some (.int .i64 h.tm)) (by kernel_rfl) ?_ (fun hHeld => ?_)
    · exact ⟨A0.cell0 rfl, A0.cell0 rfl, A5.cell0 rfl, A5.cell0 rfl⟩
    obtain ⟨d8, hd8⟩ : ∃ d, Hid (d = w7.drew) := ⟨_, rfl⟩
    have hb8 : Below w7.heap.size w7 d8 := by rw [hd8.out]; exact ext_drew (ext_refl _)
    rw [← hd8.out] at hHeld ⊢
    have A0 := A0.ext hb8
    have A5 := A5.ext hb8
    have A7 := A7.ext hb8
    have V := Lib.hid (V.out.ext hb8)
    have U := Lib.hid (U.out.ext hb8)
    have M := Lib.hid (M.out.ext hb8)
    have E := ext_trans E hb8
    clear hb8
    try simp only [Act.put, List.setIfInBounds_toArray, List.set_cons_zero, List.set_cons_succ]
    refine wpAnyH_take (i := 0) (v := ?_) rfl (by kernel_rfl) (by kernel_rfl) (by kernel_rfl) (fun _ _ _ h => h) (Or.inl ⟨by rfl, fun w' hS' => ?_⟩) (by assumption) ?_
    rotate_left
    · (try dsimp only at hS'); go_simp; (try rw [if_pos (by omega)]); try with_reducible rfl
    try simp only [Act.put, List.getElem_toArray, List.getElem_cons_zero, List.getElem_cons_succ, List.setIfInBounds_toArray, List.set_cons_zero, List.set_cons_succ]
    refine wpAnyH_take (i := 1) (v := ?_) rfl (by kernel_rfl) (by kernel_rfl) (by kernel_rfl) (fun _ _ _ h => h) (Or.inl ⟨by rfl, fun w' hS' => ?_⟩) (by assumption) ?_
    rotate_left
    · (try dsimp only at hS'); go_simp; (try rw [if_pos (by omega)]); try with_reducible rfl
    try simp only [Act.put, List.getElem_toArray, List.getElem_cons_zero, List.getElem_cons_succ, List.setIfInBounds_toArray, List.set_cons_zero, List.set_cons_succ]
    refine wpAnyH_ready (rs := [2]) (by kernel_rfl) (by simp) ?_
    refine AllReadyH.cons rfl (fun K' hK => ?_) AllReadyH.nil
    refine if_yes (by rfl) ?_
    try simp only [Act.put, List.getElem_toArray, List.getElem_cons_zero, List.getElem_cons_succ, List.setIfInBounds_toArray, List.set_cons_zero, List.set_cons_succ]
    go_simp
    refine (impl_HeardOk p _ _ (l ++ [h]) _ (V.out.base (Nat.zero_le _)) (M.out.base (Nat.zero_le _)) (by rw [HM.out]; omega)).mono ?_
    rintro e w9 ⟨rfl, hb9⟩
    have A0 := A0.ext hb9
    have A5 := A5.ext hb9
    have A7 := A7.ext hb9
    have V := Lib.hid (V.out.ext hb9)
    have U := Lib.hid (U.out.ext hb9)
    have M := Lib.hid (M.out.ext hb9)
    have E := ext_trans E hb9
    clear hb9
    rw [Hlaw.out.1]
    go_wp2_with fail
    refine hK.out _ _ ?_ (fun hHeld => ?_)
    · exact ⟨A0.cell0 rfl, A0.cell0 rfl, A5.cell0 rfl, A5.cell0 rfl⟩
    clear hK K'
    try simp only [Act.put, List.setIfInBounds_toArray, List.set_cons_zero, List.set_cons_succ]
    refine wpAnyH_take (i := 3) (v := ?_) rfl (by kernel_rfl) (by kernel_rfl) (by kernel_rfl) (fun _ _ _ h => h) (Or.inl ⟨by rfl, fun w' hS' => ?_⟩) (by assumption) ?_
    rotate_left
    · (try dsimp only at hS'); go_simp; (try rw [if_pos (by omega)]); try with_reducible rfl
    try simp only [Act.put, List.getElem_toArray, List.getElem_cons_zero, List.getElem_cons_succ, List.setIfInBounds_toArray, List.set_cons_zero, List.set_cons_succ]
    refine wpAnyH_take (i := 4) (v := ?_) rfl (by kernel_rfl) (by kernel_rfl) (by kernel_rfl) (fun _ _ _ h => h) (Or.inl ⟨by rfl, fun w' hS' => ?_⟩) (by assumption) ?_
    rotate_left
    · (try dsimp only at hS'); go_simp; (try rw [if_pos (by omega)]); try with_reducible rfl
    try simp only [Act.put, List.getElem_toArray, List.getElem_cons_zero, List.getElem_cons_succ, List.setIfInBounds_toArray, List.set_cons_zero, List.set_cons_succ]
    refine wpAnyH_take (i := 5) (v := ?_) rfl (by kernel_rfl) (by kernel_rfl) (by kernel_rfl) (fun _ _ _ h => h) (Or.inl ⟨by rfl, fun w' hS' => ?_⟩) (by assumption) ?_
    rotate_left
    · (try dsimp only at hS'); go_simp; (try rw [if_pos (by omega)]); try with_reducible rfl
    try simp only [Act.put, List.getElem_toArray, List.getElem_cons_zero, List.getElem_cons_succ, List.setIfInBounds_toArray, List.set_cons_zero, List.set_cons_succ]
    refine wpAnyH_take (i := 6) (v := ?_) rfl (by kernel_rfl) (by kernel_rfl) (by kernel_rfl) (fun _ _ _ h => h) (Or.inl ⟨by rfl, fun w' hS' => ?_⟩) (by assumption) ?_
    rotate_left
    · (try dsimp only at hS'); go_simp; (try rw [if_pos (by omega)]); try with_reducible rfl
    try simp only [Act.put, List.getElem_toArray, List.getElem_cons_zero, List.getElem_cons_succ, List.setIfInBounds_toArray, List.set_cons_zero, List.set_cons_succ]
    refine wpAnyH_take (i := 7) (v := ?_) rfl (by kernel_rfl) (by kernel_rfl) (by kernel_rfl) (fun _ _ _ h => h) (Or.inl ⟨by rfl, fun w' hS' => ?_⟩) (by assumption) ?_
    rotate_left
    · (try dsimp only at hS'); go_simp; (try rw [if_pos (by omega)]); try with_reducible rfl
    try simp only [Act.put, List.getElem_toArray, List.getElem_cons_zero, List.getElem_cons_succ, List.setIfInBounds_toArray, List.set_cons_zero, List.set_cons_succ]
    refine wpAnyH_take (i := 8) (v := ?_) rfl (by kernel_rfl) (by kernel_rfl) (by kernel_rfl) (fun _ _ _ h => h) (Or.inl ⟨by rfl, fun w' hS' => ?_⟩) (by assumption) ?_
    rotate_left
    · (try dsimp only at hS'); go_simp; (try rw [if_pos (by omega)]); try with_reducible rfl
    try simp only [Act.put, List.getElem_toArray, List.getElem_cons_zero, List.getElem_cons_succ, List.setIfInBounds_toArray, List.set_cons_zero, List.set_cons_succ]
    refine wpAnyH_take (i := 9) (v := ?_) rfl (by kernel_rfl) (by kernel_rfl) (by kernel_rfl) (fun _ _ _ h => h) (Or.inl ⟨by rfl, fun w' hS' => ?_⟩) (by assumption) ?_
    rotate_left
    · (try dsimp only at hS'); go_simp; (try rw [if_pos (by omega)]); try with_reducible rfl
    try simp only [Act.put, List.getElem_toArray, List.getElem_cons_zero, List.getElem_cons_succ, List.setIfInBounds_toArray, List.set_cons_zero, List.set_cons_succ]
    refine wpAnyH_take (i := 10) (v := ?_) rfl (by kernel_rfl) (by kernel_rfl) (by kernel_rfl) (fun _ _ _ h => h) (Or.inl ⟨by rfl, fun w' hS' => ?_⟩) (by assumption) ?_
    rotate_left
    · (try dsimp only at hS'); go_simp; (try rw [if_pos (by omega)]); try with_reducible rfl
    try simp only [Act.put, List.getElem_toArray, List.getElem_cons_zero, List.getElem_cons_succ, List.setIfInBounds_toArray, List.set_cons_zero, List.set_cons_succ]
    refine wpAnyH_take (i := 11) (v := ?_) rfl (by kernel_rfl) (by kernel_rfl) (by kernel_rfl) (fun _ _ _ h => h) (Or.inl ⟨by rfl, fun w' hS' => ?_⟩) (by assumption) ?_
    rotate_left
    · (try dsimp only at hS'); go_simp; (try rw [if_pos (by omega)]); try with_reducible rfl
    try simp only [Act.put, List.getElem_toArray, List.getElem_cons_zero, List.getElem_cons_succ, List.setIfInBounds_toArray, List.set_cons_zero, List.set_cons_succ]
    refine wpAnyH_take (i := 12) (v := ?_) rfl (by kernel_rfl) (by kernel_rfl) (by kernel_rfl) (fun _ _ _ h => h) (Or.inl ⟨by rfl, fun w' hS' => ?_⟩) (by assumption) ?_
    rotate_left
    · (try dsimp only at hS'); go_simp; (try rw [if_pos (by omega)]); try with_reducible rfl
    try simp only [Act.put, List.getElem_toArray, List.getElem_cons_zero, List.getElem_cons_succ, List.setIfInBounds_toArray, List.set_cons_zero, List.set_cons_succ]
    refine wpAnyH_take (i := 13) (v := ?_) rfl (by kernel_rfl) (by kernel_rfl) (by kernel_rfl) (fun _ _ _ h => h) (Or.inl ⟨by rfl, fun w' hS' => ?_⟩) (by assumption) ?_
    rotate_left
    · (try dsimp only at hS'); go_simp; (try rw [if_pos (by omega)]); try with_reducible rfl
    try simp only [Act.put, List.getElem_toArray, List.getElem_cons_zero, List.getElem_cons_succ, List.setIfInBounds_toArray, List.set_cons_zero, List.set_cons_succ]
    refine wpAnyH_take (i := 14) (v := ?_) rfl (by kernel_rfl) (by kernel_rfl) (by kernel_rfl) (fun _ _ _ h => h) (Or.inl ⟨by rfl, fun w' hS' => ?_⟩) (by assumption) ?_
    rotate_left
    · (try dsimp only at hS'); go_simp; (try rw [if_pos (by omega)]); try with_reducible rfl
    try simp only [Act.put, List.getElem_toArray, List.getElem_cons_zero, List.getElem_cons_succ, List.setIfInBounds_toArray, List.set_cons_zero, List.set_cons_succ]
    refine wpAnyH_take (i := 15) (v := ?_) rfl (by kernel_rfl) (by kernel_rfl) (by kernel_rfl) (fun _ _ _ h => h) (Or.inl ⟨by rfl, fun w' hS' => ?_⟩) (by assumption) ?_
    rotate_left
    · (try dsimp only at hS'); go_simp; (try rw [if_pos (by omega)]); try with_reducible rfl
    try simp only [Act.put, List.getElem_toArray, List.getElem_cons_zero, List.getElem_cons_succ, List.setIfInBounds_toArray, List.set_cons_zero, List.set_cons_succ]
    refine wpAnyH_ready (rs := [16]) (by kernel_rfl) (by simp) ?_
    refine AllReadyH.cons rfl (fun K' hK => ?_) AllReadyH.nil
    refine if_yes (by rfl) ?_
    try simp only [Act.put, List.getElem_toArray, List.getElem_cons_zero, List.getElem_cons_succ, List.setIfInBounds_toArray, List.set_cons_zero, List.set_cons_succ]
    go_simp
    refine (impl_WaitUntil p _ _ l _ (V.out.base (Nat.zero_le _)) (U.out.base (Nat.zero_le _)) (by rw [← hN.out]; omega)).mono ?_
    rintro e w10 ⟨rfl, hb10⟩
    have A0 := A0.ext hb10
    have A5 := A5.ext hb10
    have A7 := A7.ext hb10
    have V := Lib.hid (V.out.ext hb10)
    have U := Lib.hid (U.out.ext hb10)
    have M := Lib.hid (M.out.ext hb10)
    have E := ext_trans E hb10
    clear hb10
    rw [← hz.out]
    go_wp2_with fail
    refine hK.out _ _ ?_ (fun hHeld => ?_)
    · exact ⟨A0.cell0 rfl, A0.cell0 rfl, A5.cell0 rfl, A5.cell0 rfl⟩
    clear hK K'
    try simp only [Act.put, List.setIfInBounds_toArray, List.set_cons_zero, List.set_cons_succ]
    refine wpAnyH_take (i := 17) (v := ?_) rfl (by kernel_rfl) (by kernel_rfl) (by kernel_rfl) (fun _ _ _ h => h) (Or.inl ⟨by rfl, fun w' hS' => ?_⟩) (by assumption) ?_
    rotate_left
    · (try dsimp only at hS'); go_simp; (try rw [if_pos (by omega)]); try with_reducible rfl
    try simp only [Act.put, List.getElem_toArray, List.getElem_cons_zero, List.getElem_cons_succ, List.setIfInBounds_toArray, List.set_cons_zero, List.set_cons_succ]
    refine wpAnyH_take (i := 18) (v := ?_) rfl (by kernel_rfl) (by kernel_rfl) (by kernel_rfl) (fun _ _ _ h => h) (Or.inl ⟨by rfl, fun w' hS' => ?_⟩) (by assumption) ?_
    rotate_left
    · (try dsimp only at hS'); go_simp; (try rw [if_pos (by omega)]); try with_reducible rfl
    try simp only [Act.put, List.getElem_toArray, List.getElem_cons_zero, List.getElem_cons_succ, List.setIfInBounds_toArray, List.set_cons_zero, List.set_cons_succ]
    refine wpAnyH_take (i := 19) (v := ?_) rfl (by kernel_rfl) (by kernel_rfl) (by kernel_rfl) (fun _ _ _ h => h) (Or.inl ⟨by rfl, fun w' hS' => ?_⟩) (by assumption) ?_
    rotate_left
    · (try dsimp only at hS'); go_simp; (try rw [if_pos (by omega)]); try with_reducible rfl
    try simp only [Act.put, List.getElem_toArray, List.getElem_cons_zero, List.getElem_cons_succ, List.setIfInBounds_toArray, List.set_cons_zero, List.set_cons_succ]
    refine wpAnyH_done (by kernel_rfl) ?_ _
    try simp only [Act.put, List.setIfInBounds_toArray, List.set_cons_zero, List.set_cons_succ]
    go_wp2_with fail
    go_ret
    exact ⟨rfl, E⟩
  · subst hv1
    obtain ⟨rcA0, rzA0⟩ := (A0).rules; have rlA0 := (A0).lt
    obtain ⟨rcA5, rzA5⟩ := (A5).rules; have rlA5 := (A5).lt
    go_upto_region 12 with fail
    clear rcA0 rzA0 rlA0 rcA5 rzA5 rlA5
    refine wp_region_held_drew (S := fun w' => w'.cell? ⟨w1.heap.size, 0, none⟩ = some (.int .i64 p.pts) ∧ w'.cell? ⟨w1.heap.size, 1, none⟩ = some (.slice a1 p.bs.length c1) ∧ w'.cell? ⟨w3.heap.size, 0, none⟩ = some (.int .i64 h.pt) ∧ w'.cell? ⟨w3.heap.size, 1, none⟩ = some (.int .i64 h.tm)) (by kernel_rfl) ?_ (fun hHeld => ?_)
    · exact ⟨A0.cell0 rfl, A0.cell0 rfl, A5.cell0 rfl, A5.cell0 rfl⟩
    obtain ⟨d8, hd8⟩ : ∃ d, Hid (d = w7.drew) := ⟨_, rfl⟩
    have hb8 : Below w7.heap.size w7 d8 := by rw [hd8.out]; exact ext_drew (ext_refl _)
    rw [← hd8.out] at hHeld ⊢
    have A0 := A0.ext hb8
    have A5 := A5.ext hb8
    have A7 := A7.ext hb8
    have V := Lib.hid (V.out.ext hb8)
    have U := Lib.hid (U.out.ext hb8)
    have M := Lib.hid (M.out.ext hb8)
    have E := ext_trans E hb8
    clear hb8
    try simp only [Act.put, List.setIfInBounds_toArray, List.set_cons_zero, List.set_cons_succ]
    refine wpAnyH_take (i := 0) (v := ?_) rfl (by kernel_rfl) (by kernel_rfl) (by kernel_rfl) (fun _ _ _ h => h) (Or.inl ⟨by rfl, fun w' hS' => ?_⟩) (by assumption) ?_
    rotate_left
    · (try dsimp only at hS'); go_simp; (try rw [if_pos (by omega)]); try with_reducible rfl
    try simp only [Act.put, List.getElem_toArray, List.getElem_cons_zero, List.getElem_cons_succ, List.setIfInBounds_toArray, List.set_cons_zero, List.set_cons_succ]
    refine wpAnyH_take (i := 1) (v := ?_) rfl (by kernel_rfl) (by kernel_rfl) (by kernel_rfl) (fun _ _ _ h => h) (Or.inl ⟨by rfl, fun w' hS' => ?_⟩) (by assumption) ?_
    rotate_left
    · (try dsimp only at hS'); go_simp; (try rw [if_pos (by omega)]); try with_reducible rfl
    try simp only [Act.put, List.getElem_toArray, List.getElem_cons_zero, List.getElem_cons_succ, List.setIfInBounds_toArray, List.set_cons_zero, List.set_cons_succ]
    refine wpAnyH_ready (rs := [2]) (by kernel_rfl) (by simp) ?_
    refine AllReadyH.cons rfl (fun K' hK => ?_) AllReadyH.nil
    refine if_yes (by rfl) ?_
    try simp only [Act.put, List.getElem_toArray, List.getElem_cons_zero, List.getElem_cons_succ, List.setIfInBounds_toArray, List.set_cons_zero, List.set_cons_succ]
    go_simp
    refine (impl_HeardOk p _ _ (l ++ [h]) _ (V.out.base (Nat.zero_le _)) (M.out.base (Nat.zero_le _)) (by rw [HM.out]; omega)).mono ?_
    rintro e w9 ⟨rfl, hb9⟩
    have A0 := A0.ext hb9
    have A5 := A5.ext hb9
    have A7 := A7.ext hb9
    have V := Lib.hid (V.out.ext hb9)
    have U := Lib.hid (U.out.ext hb9)
    have M := Lib.hid (M.out.ext hb9)
    have E := ext_trans E hb9
    clear hb9
    rw [Hlaw.out.1]
    go_wp2_with fail
    refine hK.out _ _ ?_ (fun hHeld => ?_)
    · exact ⟨A0.cell0 rfl, A0.cell0 rfl, A5.cell0 rfl, A5.cell0 rfl⟩
    clear hK K'
    try simp only [Act.put, List.setIfInBounds_toArray, List.set_cons_zero, List.set_cons_succ]
    refine wpAnyH_take (i := 3) (v := ?_) rfl (by kernel_rfl) (by kernel_rfl) (by kernel_rfl) (fun _ _ _ h => h) (Or.inl ⟨by rfl, fun w' hS' => ?_⟩) (by assumption) ?_
    rotate_left
    · (try dsimp only at hS'); go_simp; (try rw [if_pos (by omega)]); try with_reducible rfl
    try simp only [Act.put, List.getElem_toArray, List.getElem_cons_zero, List.getElem_cons_succ, List.setIfInBounds_toArray, List.set_cons_zero, List.set_cons_succ]
    refine wpAnyH_take (i := 4) (v := ?_) rfl (by kernel_rfl) (by kernel_rfl) (by kernel_rfl) (fun _ _ _ h => h) (Or.inl ⟨by rfl, fun w' hS' => ?_⟩) (by assumption) ?_
    rotate_left
    · (try dsimp only at hS'); go_simp; (try rw [if_pos (by omega)]); try with_reducible rfl
    try simp only [Act.put, List.getElem_toArray, List.getElem_cons_zero, List.getElem_cons_succ, List.setIfInBounds_toArray, List.set_cons_zero, List.set_cons_succ]
    refine wpAnyH_take (i := 5) (v := ?_) rfl (by kernel_rfl) (by kernel_rfl) (by kernel_rfl) (fun _ _ _ h => h) (Or.inl ⟨by rfl, fun w' hS' => ?_⟩) (by assumption) ?_
    rotate_left
    · (try dsimp only at hS'); go_simp; (try rw [if_pos (by omega)]); try with_reducible rfl
    try simp only [Act.put, List.getElem_toArray, List.getElem_cons_zero, List.getElem_cons_succ, List.setIfInBounds_toArray, List.set_cons_zero, List.set_cons_succ]
    refine wpAnyH_take (i := 6) (v := ?_) rfl (by kernel_rfl) (by kernel_rfl) (by kernel_rfl) (fun _ _ _ h => h) (Or.inl ⟨by rfl, fun w' hS' => ?_⟩) (by assumption) ?_
    rotate_left
    · (try dsimp only at hS'); go_simp; (try rw [if_pos (by omega)]); try with_reducible rfl
    try simp only [Act.put, List.getElem_toArray, List.getElem_cons_zero, List.getElem_cons_succ, List.setIfInBounds_toArray, List.set_cons_zero, List.set_cons_succ]
    refine wpAnyH_take (i := 7) (v := undef) rfl (by kernel_rfl) (by kernel_rfl) (by kernel_rfl) (fun _ _ _ h => h) (Or.inr ⟨by rfl, rfl⟩) (by assumption) ?_
    try simp only [Act.put, List.getElem_toArray, List.getElem_cons_zero, List.getElem_cons_succ, List.setIfInBounds_toArray, List.set_cons_zero, List.set_cons_succ]
    refine wpAnyH_take (i := 8) (v := undef) rfl (by kernel_rfl) (by kernel_rfl) (by kernel_rfl) (fun _ _ _ h => h) (Or.inr ⟨by rfl, rfl⟩) (by assumption) ?_
    try simp only [Act.put, List.getElem_toArray, List.getElem_cons_zero, List.getElem_cons_succ, List.setIfInBounds_toArray, List.set_cons_zero, List.set_cons_succ]
    refine wpAnyH_take (i := 9) (v := ?_) rfl (by kernel_rfl) (by kernel_rfl) (by kernel_rfl) (fun _ _ _ h => h) (Or.inl ⟨by rfl, fun w' hS' => ?_⟩) (by assumption) ?_
    rotate_left
    · (try dsimp only at hS'); go_simp; (try rw [if_pos (by omega)]); try with_reducible rfl
    try simp only [Act.put, List.getElem_toArray, List.getElem_cons_zero, List.getElem_cons_succ, List.setIfInBounds_toArray, List.set_cons_zero, List.set_cons_succ]
    refine wpAnyH_take (i := 10) (v := ?_) rfl (by kernel_rfl) (by kernel_rfl) (by kernel_rfl) (fun _ _ _ h => h) (Or.inl ⟨by rfl, fun w' hS' => ?_⟩) (by assumption) ?_
    rotate_left
    · (try dsimp only at hS'); go_simp; (try rw [if_pos (by omega)]); try with_reducible rfl
    try simp only [Act.put, List.getElem_toArray, List.getElem_cons_zero, List.getElem_cons_succ, List.setIfInBounds_toArray, List.set_cons_zero, List.set_cons_succ]
    refine wpAnyH_take (i := 11) (v := ?_) rfl (by kernel_rfl) (by kernel_rfl) (by kernel_rfl) (fun _ _ _ h => h) (Or.inl ⟨by rfl, fun w' hS' => ?_⟩) (by assumption) ?_
    rotate_left
    · (try dsimp only at hS'); go_simp; (try rw [if_pos (by omega)]); try with_reducible rfl
    try simp only [Act.put, List.getElem_toArray, List.getElem_cons_zero, List.getElem_cons_succ, List.setIfInBounds_toArray, List.set_cons_zero, List.set_cons_succ]
    refine wpAnyH_take (i := 12) (v := ?_) rfl (by kernel_rfl) (by kernel_rfl) (by kernel_rfl) (fun _ _ _ h => h) (Or.inl ⟨by rfl, fun w' hS' => ?_⟩) (by assumption) ?_
    rotate_left
    · (try dsimp only at hS'); go_simp; (try rw [if_pos (by omega)]); try with_reducible rfl
    try simp only [Act.put, List.getElem_toArray, List.getElem_cons_zero, List.getElem_cons_succ, List.setIfInBounds_toArray, List.set_cons_zero, List.set_cons_succ]
    refine wpAnyH_take (i := 13) (v := ?_) rfl (by kernel_rfl) (by kernel_rfl) (by kernel_rfl) (fun _ _ _ h => h) (Or.inl ⟨by rfl, fun w' hS' => ?_⟩) (by assumption) ?_
    rotate_left
    · (try dsimp only at hS'); go_simp; (try rw [if_pos (by omega)]); try with_reducible rfl
    try simp only [Act.put, List.getElem_toArray, List.getElem_cons_zero, List.getElem_cons_succ, List.setIfInBounds_toArray, List.set_cons_zero, List.set_cons_succ]
    refine wpAnyH_take (i := 14) (v := ?_) rfl (by kernel_rfl) (by kernel_rfl) (by kernel_rfl) (fun _ _ _ h => h) (Or.inl ⟨by rfl, fun w' hS' => ?_⟩) (by assumption) ?_
    rotate_left
    · (try dsimp only at hS'); go_simp; (try rw [if_pos (by omega)]); try with_reducible rfl
    try simp only [Act.put, List.getElem_toArray, List.getElem_cons_zero, List.getElem_cons_succ, List.setIfInBounds_toArray, List.set_cons_zero, List.set_cons_succ]
    refine wpAnyH_take (i := 15) (v := ?_) rfl (by kernel_rfl) (by kernel_rfl) (by kernel_rfl) (fun _ _ _ h => h) (Or.inl ⟨by rfl, fun w' hS' => ?_⟩) (by assumption) ?_
    rotate_left
    · (try dsimp only at hS'); go_simp; (try rw [if_pos (by omega)]); try with_reducible rfl
    try simp only [Act.put, List.getElem_toArray, List.getElem_cons_zero, List.getElem_cons_succ, List.setIfInBounds_toArray, List.set_cons_zero, List.set_cons_succ]
    refine wpAnyH_ready (rs := [16]) (by kernel_rfl) (by simp) ?_
    refine AllReadyH.cons rfl (fun K' hK => ?_) AllReadyH.nil
    refine if_yes (by rfl) ?_
    try simp only [Act.put, List.getElem_toArray, List.getElem_cons_zero, List.getElem_cons_succ, List.setIfInBounds_toArray, List.set_cons_zero, List.set_cons_succ]
    go_simp
    refine (impl_WaitUntil p _ _ l _ (V.out.base (Nat.zero_le _)) (U.out.base (Nat.zero_le _)) (by rw [← hN.out]; omega)).mono ?_
    rintro e w10 ⟨rfl, hb10⟩
    have A0 := A0.ext hb10
    have A5 := A5.ext hb10
    have A7 := A7.ext hb10
    have V := Lib.hid (V.out.ext hb10)
    have U := Lib.hid (U.out.ext hb10)
    have M := Lib.hid (M.out.ext hb10)
    have E := ext_trans E hb10
    clear hb10
    rw [← hz.out]
    go_wp2_with fail
    refine hK.out _ _ ?_ (fun hHeld => ?_)
    · exact ⟨A0.cell0 rfl, A0.cell0 rfl, A5.cell0 rfl, A5.cell0 rfl⟩
    clear hK K'
    try simp only [Act.put, List.setIfInBounds_toArray, List.set_cons_zero, List.set_cons_succ]
    refine wpAnyH_take (i := 17) (v := ?_) rfl (by kernel_rfl) (by kernel_rfl) (by kernel_rfl) (fun _ _ _ h => h) (Or.inl ⟨by rfl, fun w' hS' => ?_⟩) (by assumption) ?_
    rotate_left
    · (try dsimp only at hS'); go_simp; (try rw [if_pos (by omega)]); try with_reducible rfl
    try simp only [Act.put, List.getElem_toArray, List.getElem_cons_zero, List.getElem_cons_succ, List.setIfInBounds_toArray, List.set_cons_zero, List.set_cons_succ]
    refine wpAnyH_take (i := 18) (v := ?_) rfl (by kernel_rfl) (by kernel_rfl) (by kernel_rfl) (fun _ _ _ h => h) (Or.inl ⟨by rfl, fun w' hS' => ?_⟩) (by assumption) ?_
    rotate_left
    · (try dsimp only at hS'); go_simp; (try rw [if_pos (by omega)]); try with_reducible rfl
    try simp only [Act.put, List.getElem_toArray, List.getElem_cons_zero, List.getElem_cons_succ, List.setIfInBounds_toArray, List.set_cons_zero, List.set_cons_succ]
    refine wpAnyH_take (i := 19) (v := ?_) rfl (by kernel_rfl) (by kernel_rfl) (by kernel_rfl) (fun _ _ _ h => h) (Or.inl ⟨by rfl, fun w' hS' => ?_⟩) (by assumption) ?_
    rotate_left
    · (try dsimp only at hS'); go_simp; (try rw [if_pos (by omega)]); try with_reducible rfl
    try simp only [Act.put, List.getElem_toArray, List.getElem_cons_zero, List.getElem_cons_succ, List.setIfInBounds_toArray, List.set_cons_zero, List.set_cons_succ]
    refine wpAnyH_done (by kernel_rfl) ?_ _
    try simp only [Act.put, List.setIfInBounds_toArray, List.set_cons_zero, List.set_cons_succ]
    go_wp2_with fail
    go_ret
    exact ⟨rfl, E⟩
end Go.Proofs.Ytffcfambgcaikaa
