/- The walk of FnRingOk: it returns true, whatever code came in. Condition: the code can be read. -/
import Derived.Test.YtlcmhcfnmohgmaaRingDraw
import Derived.Test.YtlcmhcfnmohgmaaAppTail
import Derived.Test.YtlcmhcfnmohgmaaLawInts
import Derived.Test.YtlcmhcfnmohgmaaSame
namespace Go.Proofs.Ytlcmhcfnmohgmaa
open Go.RowKit
set_option linter.unusedVariables false
set_option linter.unusedSimpArgs false
theorem Ints.cellT {w : World} {base n cap gb : Nat} {l : List Int} (h : Ints w base (.slice (some ⟨gb, 0, none⟩) n cap) l) {j : Nat} (hj : j < l.length) : w.cell? ⟨gb, j, none⟩ = some (.int .i64 (l.getD j 0)) := by
  obtain ⟨g, he, _, _, _, hc⟩ := h.at_ hj
  cases he
  exact hc
set_option maxRecDepth 100000 in
set_option maxHeartbeats 8000000 in
theorem walk_RingOk (a : Option Addr) (n cap : Nat) (w : World) (h : Byt w w.heap.size a n cap) :
    Calls Try.prog 8 #[.slice a n cap] w fun e w' => e = .returned (.bool true) ∧ Below w.heap.size w w' := by
  have H := Lib.hid h
  obtain ⟨hncap, hcap, -⟩ := id h
  clear h
  by_cases hbig : 1048576 < n
  · go_enter Try.func8, Try.ntmps8
    go_wp2_with fail
    go_ret
    exact ⟨rfl, ext_refl _⟩
  go_enter Try.func8, Try.ntmps8
  go_wp2_with fail
  refine (spec_DrawRingOk a n cap w H.out).mono ?_
  rintro e w1 ⟨v1, v2, p, l, rfl, hV, hB, hl16, hl10, h0, h7, hb1⟩
  have E := hb1
  clear hb1
  obtain ⟨a1, c1, rfl, -⟩ := hV.open
  have V := Lib.hid hV
  clear hV
  obtain ⟨a2, c2, rfl, -⟩ := hB.open
  have B := Lib.hid hB
  clear hB
  go_upto_region 4 with fail
  obtain ⟨w2, hw2, A0, hs2, hb2⟩ := one_box w1 #[.int .i64 p.pts, .slice a1 p.bs.length c1] 25
  rw [← hw2.out]
  have V := Lib.hid (V.out.ext hb2)
  have B := Lib.hid (B.out.ext hb2)
  have E := ext_trans E hb2
  clear hb2
  obtain ⟨rcA0, rzA0⟩ := (A0).rules; have rlA0 := (A0).lt
  go_wp2_with fail
  obtain ⟨ok, hok⟩ : ∃ ok, Hid (ok = ringOk p l) := ⟨_, rfl⟩
  refine (impl_RingOk p _ _ l _ (V.out.base (Nat.zero_le _)) (B.out.base (Nat.zero_le _))).mono ?_
  rintro e w3 ⟨rfl, hb3⟩
  clear rcA0 rzA0 rlA0
  have A0 := A0.ext hb3
  have V := Lib.hid (V.out.ext hb3)
  have B := Lib.hid (B.out.ext hb3)
  have E := ext_trans E hb3
  clear hb3
  rw [← hok.out]
  obtain ⟨rcA0, rzA0⟩ := (A0).rules; have rlA0 := (A0).lt
  go_wp2_with fail
  refine (spec_RingOk p _ _ l _ (V.out.base (Nat.zero_le _)) (B.out.base (Nat.zero_le _)) (by omega) (by omega)).mono ?_
  rintro e w4 ⟨rfl, hb4⟩
  clear rcA0 rzA0 rlA0
  have A0 := A0.ext hb4
  have V := Lib.hid (V.out.ext hb4)
  have B := Lib.hid (B.out.ext hb4)
  have E := ext_trans E hb4
  clear hb4
  rw [← hok.out]
  have hoo : (ok != ok) = false := by simp
  obtain ⟨rcA0, rzA0⟩ := (A0).rules; have rlA0 := (A0).lt
  by_cases hl0 : l.length = 0
  · have he0 : ((l.length : Int) == 0) = true := by simp [hl0]
    have hof : ok = false := by
      rw [hok.out]
      unfold ringOk
      rw [show inB (l.length : Int) 1 16 = false by rw [hl0]; rfl]
      simp
    have Hl0 := Lib.hid hl0
    clear hl0
    rw [hof]
    go_wp2_with fail
    refine (laws_alive _).mono ?_
    rintro e w5 ⟨rfl, hb5⟩
    clear rcA0 rzA0 rlA0
    have A0 := A0.ext hb5
    have V := Lib.hid (V.out.ext hb5)
    have B := Lib.hid (B.out.ext hb5)
    have E := ext_trans E hb5
    clear hb5
    go_wp2_with fail
    go_ret
    exact ⟨rfl, E⟩
  have he0 : ((l.length : Int) == 0) = false := beq_false_of_ne (by omega)
  have hl1 : 0 < l.length := by omega
  obtain ⟨g2, ha2, _, hg0, _, cx⟩ := B.out.at_ (j := 0) hl1
  subst ha2
  obtain ⟨x0, Hx0⟩ : ∃ x, Hid (x = l.getD 0 0) := ⟨_, rfl⟩
  rw [← Hx0.out] at cx
  have hlc : l.length ≤ c2 := by obtain ⟨_, _, he, h1, _⟩ := B.out.open; cases he; exact h1
  clear rcA0 rzA0 rlA0
  go_upto_region 9 with fail
  go_cut [6] (fun v6 wx => Ints wx w4.heap.size v6 (laterR l) ∧ Below w4.heap.size w4 wx)
  case first =>
    by_cases hca : c2 = 1
    · have hca2 : (c2 = 1) = True := eq_true hca
      have Hca := Lib.hid hca
      clear hca
      refine wp_region_held_drew (S := fun w' => w'.cell? ⟨g2, 0, none⟩ = some (Value.int .i64 x0)) (by kernel_rfl) ?_ (fun hHeld => ?_)
      · exact cx
      have X := ext_drew (ext_refl w4)
      obtain ⟨D, hD⟩ : ∃ D, Hid (D = w4.drew) := ⟨_, rfl⟩
      have qD : w4.heap.size ≤ D.heap.size := by rw [hD.out]; exact Nat.le_refl _
      rw [← hD.out] at X hHeld ⊢
      try simp only [Act.put, List.setIfInBounds_toArray, List.set_cons_zero, List.set_cons_succ]
      refine wpAnyH_take (i := 1) (v := ?_) rfl (by kernel_rfl) (by kernel_rfl) (by kernel_rfl) (fun _ _ _ h => h) (Or.inl ⟨by rfl, fun w' hS' => ?_⟩) (by assumption) ?_
      rotate_left
      · (try dsimp only at hS'); go_simp; (try rw [if_pos (by omega)]); try with_reducible rfl
      try simp only [Act.put, List.getElem_toArray, List.getElem_cons_zero, List.getElem_cons_succ, List.setIfInBounds_toArray, List.set_cons_zero, List.set_cons_succ]
      refine wpAnyH_take (i := 2) (v := ?_) rfl (by kernel_rfl) (by kernel_rfl) (by kernel_rfl) (fun _ _ _ h => h) (Or.inl ⟨by rfl, fun w' hS' => ?_⟩) (by assumption) ?_
      rotate_left
      · (try dsimp only at hS'); go_simp; (try rw [if_pos (by omega)]); try with_reducible rfl
      try simp only [Act.put, List.getElem_toArray, List.getElem_cons_zero, List.getElem_cons_succ, List.setIfInBounds_toArray, List.set_cons_zero, List.set_cons_succ]
      refine wpAnyH_take (i := 4) (v := ?_) rfl (by kernel_rfl) (by kernel_rfl) (by kernel_rfl) (fun _ _ _ h => h) (Or.inl ⟨by rfl, fun w' hS' => ?_⟩) (by assumption) ?_
      rotate_left
      · (try dsimp only at hS'); go_simp; (try rw [if_pos (by omega)]); try with_reducible rfl
      try simp only [Act.put, List.getElem_toArray, List.getElem_cons_zero, List.getElem_cons_succ, List.setIfInBounds_toArray, List.set_cons_zero, List.set_cons_succ]
      refine wpAnyH_take (i := 5) (v := ?_) rfl (by kernel_rfl) (by kernel_rfl) (by kernel_rfl) (fun _ _ _ h => h) (Or.inl ⟨by rfl, fun w' hS' => ?_⟩) (by assumption) ?_
      rotate_left
      · (try dsimp only at hS'); go_simp; (try rw [if_pos (by omega)]); try with_reducible rfl
      try simp only [Act.put, List.getElem_toArray, List.getElem_cons_zero, List.getElem_cons_succ, List.setIfInBounds_toArray, List.set_cons_zero, List.set_cons_succ]
      refine wpAnyH_take (i := 6) (v := ?_) rfl (by kernel_rfl) (by kernel_rfl) (by kernel_rfl) (fun _ _ _ h => h) (Or.inl ⟨by rfl, fun w' hS' => ?_⟩) (by assumption) ?_
      rotate_left
      · (try dsimp only at hS'); go_simp; (try rw [if_pos (by omega)]); try with_reducible rfl
      try simp only [Act.put, List.getElem_toArray, List.getElem_cons_zero, List.getElem_cons_succ, List.setIfInBounds_toArray, List.set_cons_zero, List.set_cons_succ]
      refine wpAnyH_ready (rs := [0, 7]) (by kernel_rfl) (by simp) ?_
      refine AllReadyH.cons rfl (fun K' hK => ?_) (AllReadyH.cons rfl (fun K' hK => ?_) AllReadyH.nil)
      · skip
        refine if_yes (by rfl) ?_
        try simp only [Act.put, List.setIfInBounds_toArray, List.set_cons_zero, List.set_cons_succ]
        go_simp
        obtain ⟨y1w, hy1w, By1w, sy1w, ey1w⟩ := one_box D #[] 3
        have TE : Ints y1w D.heap.size (.slice (some ⟨D.heap.size, 0, none⟩) 0 0) [] := Ints.ofBox By1w (Nat.le_refl _)
        rw [← hy1w.out]
        have X := ext_trans X ey1w
        obtain ⟨be, Hbe⟩ : ∃ b, Hid (b = D.heap.size) := ⟨_, rfl⟩
        rw [← Hbe.out] at TE ⊢
        have qbe : w4.heap.size ≤ be := by rw [Hbe.out]; exact qD
        have qy1w : w4.heap.size ≤ y1w.heap.size := X.size
        have hbe2 : be ≤ y1w.heap.size := Nat.le_of_lt (TE.lt be rfl).2
        have TEl : be < y1w.heap.size := (TE.lt _ rfl).2
        refine hK.out _ _ ?_ (fun hHeld => ?_)
        · exact (X.cell (by exact hg0)).trans cx
        clear hK K'
        try simp only [Act.put, List.setIfInBounds_toArray, List.set_cons_zero, List.set_cons_succ]
        refine wpAnyH_ready (rs := [3, 7]) (by kernel_rfl) (by simp) ?_
        refine AllReadyH.cons rfl (fun K' hK => ?_) (AllReadyH.cons rfl (fun K' hK => ?_) AllReadyH.nil)
        · skip
          refine if_yes (by rfl) ?_
          try simp only [Act.put, List.setIfInBounds_toArray, List.set_cons_zero, List.set_cons_succ]
          have hcell : ∀ t, t < l.length → y1w.cell? ⟨g2, 0 + t, none⟩ = some (.int .i64 (l.getD t 0)) := fun t ht => by rw [Nat.zero_add]; exact (B.out.ext X).cellT ht
          refine wp_appTail _ (.tmp 33) (.tmp 35) rfl be (.slice (some ⟨be, 0, none⟩) 0 0) [] rfl TE _ (l.length - 1) _ (l.drop 1) rfl (by rw [List.length_drop]) (by intro hq; first | (cases hq; done) | (simp at hq; done) | (split at hq <;> simp at hq)) (cells_from (o := 0) (i := 1) (c := c2) rfl hlc hcell (fun hq => by first | exact absurd Hca.out hq | (simp; done) | rfl)) (by simp; omega) (by omega) ?_
          intro v' y2w hv' hg'
          rw [List.nil_append] at hv'
          obtain ⟨an, cn, rfl, -⟩ := hv'.open
          have hdl : (l.drop 1).length = l.length - 1 := by rw [List.length_drop]
          rw [hdl] at hv'
          try rw [hdl]
          have TN := hv'
          have X := ext_grown X hg' (fun q hq => by simp [Value.ownBlock] at hq; omega)
          have qy2w : w4.heap.size ≤ y2w.heap.size := X.size
          have hbe2 : be ≤ y2w.heap.size := by have := hg'.size; omega
          clear hg' hv' TE hcell hdl
          refine hK.out _ _ ?_ (fun hHeld => ?_)
          · exact (X.cell (by exact hg0)).trans cx
          clear hK K'
          try simp only [Act.put, List.setIfInBounds_toArray, List.set_cons_zero, List.set_cons_succ]
          refine wpAnyH_ready (rs := [7]) (by kernel_rfl) (by simp) ?_
          refine AllReadyH.cons rfl (fun K' hK => ?_) AllReadyH.nil
          refine if_yes (by rfl) ?_
          try simp only [Act.put, List.setIfInBounds_toArray, List.set_cons_zero, List.set_cons_succ]
          go_simp
          obtain ⟨y3w, hy3w, By3w, sy3w, ey3w⟩ := one_box y2w #[.int .i64 x0] 3
          have TL : Ints y3w y2w.heap.size (.slice (some ⟨y2w.heap.size, 0, none⟩) 1 1) [x0] := by rw [hy3w.out]; exact Ints.lit y2w x0
          rw [← hy3w.out]
          have X := ext_trans X ey3w
          have TN := TN.ext ey3w
          obtain ⟨bl, Hbl⟩ : ∃ b, Hid (b = y2w.heap.size) := ⟨_, rfl⟩
          rw [← Hbl.out] at TL ⊢
          have qbl : w4.heap.size ≤ bl := by rw [Hbl.out]; exact qy2w
          have qy3w : w4.heap.size ≤ y3w.heap.size := X.size
          have hbe2 : be ≤ y3w.heap.size := by have := (ey3w).size; omega
          refine hK.out _ _ ?_ (fun hHeld => ?_)
          · exact (X.cell (by exact hg0)).trans cx
          clear hK K'
          try simp only [Act.put, List.setIfInBounds_toArray, List.set_cons_zero, List.set_cons_succ]
          refine wpAnyH_ready (rs := [8]) (by kernel_rfl) (by simp) ?_
          refine AllReadyH.cons rfl (fun K' hK => ?_) AllReadyH.nil
          refine if_yes (by rfl) ?_
          try simp only [Act.put, List.setIfInBounds_toArray, List.set_cons_zero, List.set_cons_succ]
          refine wp_appI _ (.tmp 36) (.tmp 40) rfl be 0 (.slice an (l.length - 1) cn) (l.drop 1) rfl TN (.slice (some ⟨bl, 0, none⟩) 1 1) [x0] rfl (TL.base (Nat.zero_le _)) (by simp; omega) (by omega) ?_
          intro v' y4w hv' hg'
          obtain ⟨am, cm, rfl, -⟩ := hv'.open
          have hel : (l.drop 1 ++ [x0]).length = l.length - 1 + 1 := by simp
          rw [hel] at hv'
          have TM := hv'
          have X := ext_grown X hg' (fun q hq => by have := (TN.lt q hq).1; omega)
          clear hg' hv'
          refine hK.out _ _ ?_ (fun hHeld => ?_)
          · exact (X.cell (by exact hg0)).trans cx
          clear hK K'
          try simp only [Act.put, List.setIfInBounds_toArray, List.set_cons_zero, List.set_cons_succ]
          refine wpAnyH_take (i := 9) (v := ?_) rfl (by kernel_rfl) (by kernel_rfl) (by kernel_rfl) (fun _ _ _ h => h) (Or.inl ⟨by rfl, fun w' hS' => ?_⟩) (by assumption) ?_
          rotate_left
          · (try dsimp only at hS'); go_simp; (try rw [if_pos (by omega)]); try with_reducible rfl
          try simp only [Act.put, List.getElem_toArray, List.getElem_cons_zero, List.getElem_cons_succ, List.setIfInBounds_toArray, List.set_cons_zero, List.set_cons_succ]
          refine wpAnyH_done (by kernel_rfl) ?_ _
          try simp only [Act.put, List.setIfInBounds_toArray, List.set_cons_zero, List.set_cons_succ]
          go_wp2_with fail
          go_meet
          exact ⟨by rw [laterR, ← Hx0.out]; exact TM.base (by omega), X⟩
        · skip
          refine if_yes (by rfl) ?_
          try simp only [Act.put, List.setIfInBounds_toArray, List.set_cons_zero, List.set_cons_succ]
          go_simp
          obtain ⟨y5w, hy5w, By5w, sy5w, ey5w⟩ := one_box y1w #[.int .i64 x0] 3
          have TL : Ints y5w y1w.heap.size (.slice (some ⟨y1w.heap.size, 0, none⟩) 1 1) [x0] := by rw [hy5w.out]; exact Ints.lit y1w x0
          rw [← hy5w.out]
          have X := ext_trans X ey5w
          have TE := TE.ext ey5w
          obtain ⟨bl, Hbl⟩ : ∃ b, Hid (b = y1w.heap.size) := ⟨_, rfl⟩
          rw [← Hbl.out] at TL ⊢
          have qbl : w4.heap.size ≤ bl := by rw [Hbl.out]; exact qy1w
          have qy5w : w4.heap.size ≤ y5w.heap.size := X.size
          have hbe2 : be ≤ y5w.heap.size := by have := (ey5w).size; omega
          have hne : bl ≠ be := by have := TEl; rw [Hbl.out]; omega
          refine hK.out _ _ ?_ (fun hHeld => ?_)
          · exact (X.cell (by exact hg0)).trans cx
          clear hK K'
          try simp only [Act.put, List.setIfInBounds_toArray, List.set_cons_zero, List.set_cons_succ]
          refine wpAnyH_ready (rs := [3]) (by kernel_rfl) (by simp) ?_
          refine AllReadyH.cons rfl (fun K' hK => ?_) AllReadyH.nil
          refine if_yes (by rfl) ?_
          try simp only [Act.put, List.setIfInBounds_toArray, List.set_cons_zero, List.set_cons_succ]
          have hcell : ∀ t, t < l.length → y5w.cell? ⟨g2, 0 + t, none⟩ = some (.int .i64 (l.getD t 0)) := fun t ht => by rw [Nat.zero_add]; exact (B.out.ext X).cellT ht
          refine wp_appTail _ (.tmp 33) (.tmp 35) rfl be (.slice (some ⟨be, 0, none⟩) 0 0) [] rfl TE _ (l.length - 1) _ (l.drop 1) rfl (by rw [List.length_drop]) (by intro hq; first | (cases hq; done) | (simp at hq; done) | (split at hq <;> simp at hq)) (cells_from (o := 0) (i := 1) (c := c2) rfl hlc hcell (fun hq => by first | exact absurd Hca.out hq | (simp; done) | rfl)) (by simp; omega) (by omega) ?_
          intro v' y6w hv' hg'
          rw [List.nil_append] at hv'
          obtain ⟨an, cn, rfl, -⟩ := hv'.open
          have hdl : (l.drop 1).length = l.length - 1 := by rw [List.length_drop]
          rw [hdl] at hv'
          try rw [hdl]
          have TN := hv'
          have TL := TL.far hg' (fun q hq e => by simp [Value.ownBlock] at hq e; omega)
          have X := ext_grown X hg' (fun q hq => by simp [Value.ownBlock] at hq; omega)
          have qy6w : w4.heap.size ≤ y6w.heap.size := X.size
          have hbe2 : be ≤ y6w.heap.size := by have := hg'.size; omega
          clear hg' hv' TE hcell hdl
          refine hK.out _ _ ?_ (fun hHeld => ?_)
          · exact (X.cell (by exact hg0)).trans cx
          clear hK K'
          try simp only [Act.put, List.setIfInBounds_toArray, List.set_cons_zero, List.set_cons_succ]
          refine wpAnyH_ready (rs := [8]) (by kernel_rfl) (by simp) ?_
          refine AllReadyH.cons rfl (fun K' hK => ?_) AllReadyH.nil
          refine if_yes (by rfl) ?_
          try simp only [Act.put, List.setIfInBounds_toArray, List.set_cons_zero, List.set_cons_succ]
          refine wp_appI _ (.tmp 36) (.tmp 40) rfl be 0 (.slice an (l.length - 1) cn) (l.drop 1) rfl TN (.slice (some ⟨bl, 0, none⟩) 1 1) [x0] rfl (TL.base (Nat.zero_le _)) (by simp; omega) (by omega) ?_
          intro v' y7w hv' hg'
          obtain ⟨am, cm, rfl, -⟩ := hv'.open
          have hel : (l.drop 1 ++ [x0]).length = l.length - 1 + 1 := by simp
          rw [hel] at hv'
          have TM := hv'
          have X := ext_grown X hg' (fun q hq => by have := (TN.lt q hq).1; omega)
          clear hg' hv'
          refine hK.out _ _ ?_ (fun hHeld => ?_)
          · exact (X.cell (by exact hg0)).trans cx
          clear hK K'
          try simp only [Act.put, List.setIfInBounds_toArray, List.set_cons_zero, List.set_cons_succ]
          refine wpAnyH_take (i := 9) (v := ?_) rfl (by kernel_rfl) (by kernel_rfl) (by kernel_rfl) (fun _ _ _ h => h) (Or.inl ⟨by rfl, fun w' hS' => ?_⟩) (by assumption) ?_
          rotate_left
          · (try dsimp only at hS'); go_simp; (try rw [if_pos (by omega)]); try with_reducible rfl
          try simp only [Act.put, List.getElem_toArray, List.getElem_cons_zero, List.getElem_cons_succ, List.setIfInBounds_toArray, List.set_cons_zero, List.set_cons_succ]
          refine wpAnyH_done (by kernel_rfl) ?_ _
          try simp only [Act.put, List.setIfInBounds_toArray, List.set_cons_zero, List.set_cons_succ]
          go_wp2_with fail
          go_meet
          exact ⟨by rw [laterR, ← Hx0.out]; exact TM.base (by omega), X⟩
      · skip
        refine if_yes (by rfl) ?_
        try simp only [Act.put, List.setIfInBounds_toArray, List.set_cons_zero, List.set_cons_succ]
        go_simp
        obtain ⟨y8w, hy8w, By8w, sy8w, ey8w⟩ := one_box D #[.int .i64 x0] 3
        have TL : Ints y8w D.heap.size (.slice (some ⟨D.heap.size, 0, none⟩) 1 1) [x0] := by rw [hy8w.out]; exact Ints.lit D x0
        rw [← hy8w.out]
        have X := ext_trans X ey8w
        obtain ⟨bl, Hbl⟩ : ∃ b, Hid (b = D.heap.size) := ⟨_, rfl⟩
        rw [← Hbl.out] at TL ⊢
        have qbl : w4.heap.size ≤ bl := by rw [Hbl.out]; exact qD
        have qy8w : w4.heap.size ≤ y8w.heap.size := X.size
        have TLl : bl < y8w.heap.size := (TL.lt _ rfl).2
        refine hK.out _ _ ?_ (fun hHeld => ?_)
        · exact (X.cell (by exact hg0)).trans cx
        clear hK K'
        try simp only [Act.put, List.setIfInBounds_toArray, List.set_cons_zero, List.set_cons_succ]
        refine wpAnyH_ready (rs := [0]) (by kernel_rfl) (by simp) ?_
        refine AllReadyH.cons rfl (fun K' hK => ?_) AllReadyH.nil
        refine if_yes (by rfl) ?_
        try simp only [Act.put, List.setIfInBounds_toArray, List.set_cons_zero, List.set_cons_succ]
        go_simp
        obtain ⟨y9w, hy9w, By9w, sy9w, ey9w⟩ := one_box y8w #[] 3
        have TE : Ints y9w y8w.heap.size (.slice (some ⟨y8w.heap.size, 0, none⟩) 0 0) [] := Ints.ofBox By9w (Nat.le_refl _)
        rw [← hy9w.out]
        have X := ext_trans X ey9w
        have TL := TL.ext ey9w
        obtain ⟨be, Hbe⟩ : ∃ b, Hid (b = y8w.heap.size) := ⟨_, rfl⟩
        rw [← Hbe.out] at TE ⊢
        have qbe : w4.heap.size ≤ be := by rw [Hbe.out]; exact qy8w
        have qy9w : w4.heap.size ≤ y9w.heap.size := X.size
        have hbe2 : be ≤ y9w.heap.size := Nat.le_of_lt (TE.lt be rfl).2
        have hne : bl ≠ be := by have := TLl; rw [Hbe.out]; omega
        refine hK.out _ _ ?_ (fun hHeld => ?_)
        · exact (X.cell (by exact hg0)).trans cx
        clear hK K'
        try simp only [Act.put, List.setIfInBounds_toArray, List.set_cons_zero, List.set_cons_succ]
        refine wpAnyH_ready (rs := [3]) (by kernel_rfl) (by simp) ?_
        refine AllReadyH.cons rfl (fun K' hK => ?_) AllReadyH.nil
        refine if_yes (by rfl) ?_
        try simp only [Act.put, List.setIfInBounds_toArray, List.set_cons_zero, List.set_cons_succ]
        have hcell : ∀ t, t < l.length → y9w.cell? ⟨g2, 0 + t, none⟩ = some (.int .i64 (l.getD t 0)) := fun t ht => by rw [Nat.zero_add]; exact (B.out.ext X).cellT ht
        refine wp_appTail _ (.tmp 33) (.tmp 35) rfl be (.slice (some ⟨be, 0, none⟩) 0 0) [] rfl TE _ (l.length - 1) _ (l.drop 1) rfl (by rw [List.length_drop]) (by intro hq; first | (cases hq; done) | (simp at hq; done) | (split at hq <;> simp at hq)) (cells_from (o := 0) (i := 1) (c := c2) rfl hlc hcell (fun hq => by first | exact absurd Hca.out hq | (simp; done) | rfl)) (by simp; omega) (by omega) ?_
        intro v' y10w hv' hg'
        rw [List.nil_append] at hv'
        obtain ⟨an, cn, rfl, -⟩ := hv'.open
        have hdl : (l.drop 1).length = l.length - 1 := by rw [List.length_drop]
        rw [hdl] at hv'
        try rw [hdl]
        have TN := hv'
        have TL := TL.far hg' (fun q hq e => by simp [Value.ownBlock] at hq e; omega)
        have X := ext_grown X hg' (fun q hq => by simp [Value.ownBlock] at hq; omega)
        have qy10w : w4.heap.size ≤ y10w.heap.size := X.size
        have hbe2 : be ≤ y10w.heap.size := by have := hg'.size; omega
        clear hg' hv' TE hcell hdl
        refine hK.out _ _ ?_ (fun hHeld => ?_)
        · exact (X.cell (by exact hg0)).trans cx
        clear hK K'
        try simp only [Act.put, List.setIfInBounds_toArray, List.set_cons_zero, List.set_cons_succ]
        refine wpAnyH_ready (rs := [8]) (by kernel_rfl) (by simp) ?_
        refine AllReadyH.cons rfl (fun K' hK => ?_) AllReadyH.nil
        refine if_yes (by rfl) ?_
        try simp only [Act.put, List.setIfInBounds_toArray, List.set_cons_zero, List.set_cons_succ]
        refine wp_appI _ (.tmp 36) (.tmp 40) rfl be 0 (.slice an (l.length - 1) cn) (l.drop 1) rfl TN (.slice (some ⟨bl, 0, none⟩) 1 1) [x0] rfl (TL.base (Nat.zero_le _)) (by simp; omega) (by omega) ?_
        intro v' y11w hv' hg'
        obtain ⟨am, cm, rfl, -⟩ := hv'.open
        have hel : (l.drop 1 ++ [x0]).length = l.length - 1 + 1 := by simp
        rw [hel] at hv'
        have TM := hv'
        have X := ext_grown X hg' (fun q hq => by have := (TN.lt q hq).1; omega)
        clear hg' hv'
        refine hK.out _ _ ?_ (fun hHeld => ?_)
        · exact (X.cell (by exact hg0)).trans cx
        clear hK K'
        try simp only [Act.put, List.setIfInBounds_toArray, List.set_cons_zero, List.set_cons_succ]
        refine wpAnyH_take (i := 9) (v := ?_) rfl (by kernel_rfl) (by kernel_rfl) (by kernel_rfl) (fun _ _ _ h => h) (Or.inl ⟨by rfl, fun w' hS' => ?_⟩) (by assumption) ?_
        rotate_left
        · (try dsimp only at hS'); go_simp; (try rw [if_pos (by omega)]); try with_reducible rfl
        try simp only [Act.put, List.getElem_toArray, List.getElem_cons_zero, List.getElem_cons_succ, List.setIfInBounds_toArray, List.set_cons_zero, List.set_cons_succ]
        refine wpAnyH_done (by kernel_rfl) ?_ _
        try simp only [Act.put, List.setIfInBounds_toArray, List.set_cons_zero, List.set_cons_succ]
        go_wp2_with fail
        go_meet
        exact ⟨by rw [laterR, ← Hx0.out]; exact TM.base (by omega), X⟩
    · skip
      refine wp_region_held_drew (S := fun w' => w'.cell? ⟨g2, 0, none⟩ = some (Value.int .i64 x0)) (by kernel_rfl) ?_ (fun hHeld => ?_)
      · exact cx
      have X := ext_drew (ext_refl w4)
      obtain ⟨D, hD⟩ : ∃ D, Hid (D = w4.drew) := ⟨_, rfl⟩
      have qD : w4.heap.size ≤ D.heap.size := by rw [hD.out]; exact Nat.le_refl _
      rw [← hD.out] at X hHeld ⊢
      try simp only [Act.put, List.setIfInBounds_toArray, List.set_cons_zero, List.set_cons_succ]
      refine wpAnyH_take (i := 1) (v := ?_) rfl (by kernel_rfl) (by kernel_rfl) (by kernel_rfl) (fun _ _ _ h => h) (Or.inl ⟨by rfl, fun w' hS' => ?_⟩) (by assumption) ?_
      rotate_left
      · (try dsimp only at hS'); go_simp; (try rw [if_pos (by omega)]); try with_reducible rfl
      try simp only [Act.put, List.getElem_toArray, List.getElem_cons_zero, List.getElem_cons_succ, List.setIfInBounds_toArray, List.set_cons_zero, List.set_cons_succ]
      refine wpAnyH_take (i := 2) (v := ?_) rfl (by kernel_rfl) (by kernel_rfl) (by kernel_rfl) (fun _ _ _ h => h) (Or.inl ⟨by rfl, fun w' hS' => ?_⟩) (by assumption) ?_
      rotate_left
      · (try dsimp only at hS'); go_simp; (try rw [if_pos (by omega)]); try with_reducible rfl
      try simp only [Act.put, List.getElem_toArray, List.getElem_cons_zero, List.getElem_cons_succ, List.setIfInBounds_toArray, List.set_cons_zero, List.set_cons_succ]
      refine wpAnyH_take (i := 4) (v := ?_) rfl (by kernel_rfl) (by kernel_rfl) (by kernel_rfl) (fun _ _ _ h => h) (Or.inl ⟨by rfl, fun w' hS' => ?_⟩) (by assumption) ?_
      rotate_left
      · (try dsimp only at hS'); go_simp; (try rw [if_pos (by omega)]); try with_reducible rfl
      try simp only [Act.put, List.getElem_toArray, List.getElem_cons_zero, List.getElem_cons_succ, List.setIfInBounds_toArray, List.set_cons_zero, List.set_cons_succ]
      refine wpAnyH_take (i := 5) (v := ?_) rfl (by kernel_rfl) (by kernel_rfl) (by kernel_rfl) (fun _ _ _ h => h) (Or.inl ⟨by rfl, fun w' hS' => ?_⟩) (by assumption) ?_
      rotate_left
      · (try dsimp only at hS'); go_simp; (try rw [if_pos (by omega)]); try with_reducible rfl
      try simp only [Act.put, List.getElem_toArray, List.getElem_cons_zero, List.getElem_cons_succ, List.setIfInBounds_toArray, List.set_cons_zero, List.set_cons_succ]
      refine wpAnyH_take (i := 6) (v := ?_) rfl (by kernel_rfl) (by kernel_rfl) (by kernel_rfl) (fun _ _ _ h => h) (Or.inl ⟨by rfl, fun w' hS' => ?_⟩) (by assumption) ?_
      rotate_left
      · (try dsimp only at hS'); go_simp; (try rw [if_pos (by omega)]); try with_reducible rfl
      try simp only [Act.put, List.getElem_toArray, List.getElem_cons_zero, List.getElem_cons_succ, List.setIfInBounds_toArray, List.set_cons_zero, List.set_cons_succ]
      refine wpAnyH_ready (rs := [0, 7]) (by kernel_rfl) (by simp) ?_
      refine AllReadyH.cons rfl (fun K' hK => ?_) (AllReadyH.cons rfl (fun K' hK => ?_) AllReadyH.nil)
      · skip
        refine if_yes (by rfl) ?_
        try simp only [Act.put, List.setIfInBounds_toArray, List.set_cons_zero, List.set_cons_succ]
        go_simp
        obtain ⟨y1w, hy1w, By1w, sy1w, ey1w⟩ := one_box D #[] 3
        have TE : Ints y1w D.heap.size (.slice (some ⟨D.heap.size, 0, none⟩) 0 0) [] := Ints.ofBox By1w (Nat.le_refl _)
        rw [← hy1w.out]
        have X := ext_trans X ey1w
        obtain ⟨be, Hbe⟩ : ∃ b, Hid (b = D.heap.size) := ⟨_, rfl⟩
        rw [← Hbe.out] at TE ⊢
        have qbe : w4.heap.size ≤ be := by rw [Hbe.out]; exact qD
        have qy1w : w4.heap.size ≤ y1w.heap.size := X.size
        have hbe2 : be ≤ y1w.heap.size := Nat.le_of_lt (TE.lt be rfl).2
        have TEl : be < y1w.heap.size := (TE.lt _ rfl).2
        refine hK.out _ _ ?_ (fun hHeld => ?_)
        · exact (X.cell (by exact hg0)).trans cx
        clear hK K'
        try simp only [Act.put, List.setIfInBounds_toArray, List.set_cons_zero, List.set_cons_succ]
        refine wpAnyH_ready (rs := [3, 7]) (by kernel_rfl) (by simp) ?_
        refine AllReadyH.cons rfl (fun K' hK => ?_) (AllReadyH.cons rfl (fun K' hK => ?_) AllReadyH.nil)
        · skip
          refine if_yes (by rfl) ?_
          try simp only [Act.put, List.setIfInBounds_toArray, List.set_cons_zero, List.set_cons_succ]
          have hcell : ∀ t, t < l.length → y1w.cell? ⟨g2, 0 + t, none⟩ = some (.int .i64 (l.getD t 0)) := fun t ht => by rw [Nat.zero_add]; exact (B.out.ext X).cellT ht
          refine wp_appTail _ (.tmp 33) (.tmp 35) rfl be (.slice (some ⟨be, 0, none⟩) 0 0) [] rfl TE _ (l.length - 1) _ (l.drop 1) rfl (by rw [List.length_drop]) (by intro hq; first | (cases hq; done) | (simp at hq; done) | (split at hq <;> simp at hq)) (cells_from (o := 0) (i := 1) (c := c2) rfl hlc hcell (fun hq => by first | exact absurd Hca.out hq | (simp; done) | rfl)) (by simp; omega) (by omega) ?_
          intro v' y2w hv' hg'
          rw [List.nil_append] at hv'
          obtain ⟨an, cn, rfl, -⟩ := hv'.open
          have hdl : (l.drop 1).length = l.length - 1 := by rw [List.length_drop]
          rw [hdl] at hv'
          try rw [hdl]
          have TN := hv'
          have X := ext_grown X hg' (fun q hq => by simp [Value.ownBlock] at hq; omega)
          have qy2w : w4.heap.size ≤ y2w.heap.size := X.size
          have hbe2 : be ≤ y2w.heap.size := by have := hg'.size; omega
          clear hg' hv' TE hcell hdl
          refine hK.out _ _ ?_ (fun hHeld => ?_)
          · exact (X.cell (by exact hg0)).trans cx
          clear hK K'
          try simp only [Act.put, List.setIfInBounds_toArray, List.set_cons_zero, List.set_cons_succ]
          refine wpAnyH_ready (rs := [7]) (by kernel_rfl) (by simp) ?_
          refine AllReadyH.cons rfl (fun K' hK => ?_) AllReadyH.nil
          refine if_yes (by rfl) ?_
          try simp only [Act.put, List.setIfInBounds_toArray, List.set_cons_zero, List.set_cons_succ]
          go_simp
          obtain ⟨y3w, hy3w, By3w, sy3w, ey3w⟩ := one_box y2w #[.int .i64 x0] 3
          have TL : Ints y3w y2w.heap.size (.slice (some ⟨y2w.heap.size, 0, none⟩) 1 1) [x0] := by rw [hy3w.out]; exact Ints.lit y2w x0
          rw [← hy3w.out]
          have X := ext_trans X ey3w
          have TN := TN.ext ey3w
          obtain ⟨bl, Hbl⟩ : ∃ b, Hid (b = y2w.heap.size) := ⟨_, rfl⟩
          rw [← Hbl.out] at TL ⊢
          have qbl : w4.heap.size ≤ bl := by rw [Hbl.out]; exact qy2w
          have qy3w : w4.heap.size ≤ y3w.heap.size := X.size
          have hbe2 : be ≤ y3w.heap.size := by have := (ey3w).size; omega
          refine hK.out _ _ ?_ (fun hHeld => ?_)
          · exact (X.cell (by exact hg0)).trans cx
          clear hK K'
          try simp only [Act.put, List.setIfInBounds_toArray, List.set_cons_zero, List.set_cons_succ]
          refine wpAnyH_ready (rs := [8]) (by kernel_rfl) (by simp) ?_
          refine AllReadyH.cons rfl (fun K' hK => ?_) AllReadyH.nil
          refine if_yes (by rfl) ?_
          try simp only [Act.put, List.setIfInBounds_toArray, List.set_cons_zero, List.set_cons_succ]
          refine wp_appI _ (.tmp 36) (.tmp 40) rfl be 0 (.slice an (l.length - 1) cn) (l.drop 1) rfl TN (.slice (some ⟨bl, 0, none⟩) 1 1) [x0] rfl (TL.base (Nat.zero_le _)) (by simp; omega) (by omega) ?_
          intro v' y4w hv' hg'
          obtain ⟨am, cm, rfl, -⟩ := hv'.open
          have hel : (l.drop 1 ++ [x0]).length = l.length - 1 + 1 := by simp
          rw [hel] at hv'
          have TM := hv'
          have X := ext_grown X hg' (fun q hq => by have := (TN.lt q hq).1; omega)
          clear hg' hv'
          refine hK.out _ _ ?_ (fun hHeld => ?_)
          · exact (X.cell (by exact hg0)).trans cx
          clear hK K'
          try simp only [Act.put, List.setIfInBounds_toArray, List.set_cons_zero, List.set_cons_succ]
          refine wpAnyH_take (i := 9) (v := ?_) rfl (by kernel_rfl) (by kernel_rfl) (by kernel_rfl) (fun _ _ _ h => h) (Or.inl ⟨by rfl, fun w' hS' => ?_⟩) (by assumption) ?_
          rotate_left
          · (try dsimp only at hS'); go_simp; (try rw [if_pos (by omega)]); try with_reducible rfl
          try simp only [Act.put, List.getElem_toArray, List.getElem_cons_zero, List.getElem_cons_succ, List.setIfInBounds_toArray, List.set_cons_zero, List.set_cons_succ]
          refine wpAnyH_done (by kernel_rfl) ?_ _
          try simp only [Act.put, List.setIfInBounds_toArray, List.set_cons_zero, List.set_cons_succ]
          go_wp2_with fail
          go_meet
          exact ⟨by rw [laterR, ← Hx0.out]; exact TM.base (by omega), X⟩
        · skip
          refine if_yes (by rfl) ?_
          try simp only [Act.put, List.setIfInBounds_toArray, List.set_cons_zero, List.set_cons_succ]
          go_simp
          obtain ⟨y5w, hy5w, By5w, sy5w, ey5w⟩ := one_box y1w #[.int .i64 x0] 3
          have TL : Ints y5w y1w.heap.size (.slice (some ⟨y1w.heap.size, 0, none⟩) 1 1) [x0] := by rw [hy5w.out]; exact Ints.lit y1w x0
          rw [← hy5w.out]
          have X := ext_trans X ey5w
          have TE := TE.ext ey5w
          obtain ⟨bl, Hbl⟩ : ∃ b, Hid (b = y1w.heap.size) := ⟨_, rfl⟩
          rw [← Hbl.out] at TL ⊢
          have qbl : w4.heap.size ≤ bl := by rw [Hbl.out]; exact qy1w
          have qy5w : w4.heap.size ≤ y5w.heap.size := X.size
          have hbe2 : be ≤ y5w.heap.size := by have := (ey5w).size; omega
          have hne : bl ≠ be := by have := TEl; rw [Hbl.out]; omega
          refine hK.out _ _ ?_ (fun hHeld => ?_)
          · exact (X.cell (by exact hg0)).trans cx
          clear hK K'
          try simp only [Act.put, List.setIfInBounds_toArray, List.set_cons_zero, List.set_cons_succ]
          refine wpAnyH_ready (rs := [3]) (by kernel_rfl) (by simp) ?_
          refine AllReadyH.cons rfl (fun K' hK => ?_) AllReadyH.nil
          refine if_yes (by rfl) ?_
          try simp only [Act.put, List.setIfInBounds_toArray, List.set_cons_zero, List.set_cons_succ]
          have hcell : ∀ t, t < l.length → y5w.cell? ⟨g2, 0 + t, none⟩ = some (.int .i64 (l.getD t 0)) := fun t ht => by rw [Nat.zero_add]; exact (B.out.ext X).cellT ht
          refine wp_appTail _ (.tmp 33) (.tmp 35) rfl be (.slice (some ⟨be, 0, none⟩) 0 0) [] rfl TE _ (l.length - 1) _ (l.drop 1) rfl (by rw [List.length_drop]) (by intro hq; first | (cases hq; done) | (simp at hq; done) | (split at hq <;> simp at hq)) (cells_from (o := 0) (i := 1) (c := c2) rfl hlc hcell (fun hq => by first | exact absurd Hca.out hq | (simp; done) | rfl)) (by simp; omega) (by omega) ?_
          intro v' y6w hv' hg'
          rw [List.nil_append] at hv'
          obtain ⟨an, cn, rfl, -⟩ := hv'.open
          have hdl : (l.drop 1).length = l.length - 1 := by rw [List.length_drop]
          rw [hdl] at hv'
          try rw [hdl]
          have TN := hv'
          have TL := TL.far hg' (fun q hq e => by simp [Value.ownBlock] at hq e; omega)
          have X := ext_grown X hg' (fun q hq => by simp [Value.ownBlock] at hq; omega)
          have qy6w : w4.heap.size ≤ y6w.heap.size := X.size
          have hbe2 : be ≤ y6w.heap.size := by have := hg'.size; omega
          clear hg' hv' TE hcell hdl
          refine hK.out _ _ ?_ (fun hHeld => ?_)
          · exact (X.cell (by exact hg0)).trans cx
          clear hK K'
          try simp only [Act.put, List.setIfInBounds_toArray, List.set_cons_zero, List.set_cons_succ]
          refine wpAnyH_ready (rs := [8]) (by kernel_rfl) (by simp) ?_
          refine AllReadyH.cons rfl (fun K' hK => ?_) AllReadyH.nil
          refine if_yes (by rfl) ?_
          try simp only [Act.put, List.setIfInBounds_toArray, List.set_cons_zero, List.set_cons_succ]
          refine wp_appI _ (.tmp 36) (.tmp 40) rfl be 0 (.slice an (l.length - 1) cn) (l.drop 1) rfl TN (.slice (some ⟨bl, 0, none⟩) 1 1) [x0] rfl (TL.base (Nat.zero_le _)) (by simp; omega) (by omega) ?_
          intro v' y7w hv' hg'
          obtain ⟨am, cm, rfl, -⟩ := hv'.open
          have hel : (l.drop 1 ++ [x0]).length = l.length - 1 + 1 := by simp
          rw [hel] at hv'
          have TM := hv'
          have X := ext_grown X hg' (fun q hq => by have := (TN.lt q hq).1; omega)
          clear hg' hv'
          refine hK.out _ _ ?_ (fun hHeld => ?_)
          · exact (X.cell (by exact hg0)).trans cx
          clear hK K'
          try simp only [Act.put, List.setIfInBounds_toArray, List.set_cons_zero, List.set_cons_succ]
          refine wpAnyH_take (i := 9) (v := ?_) rfl (by kernel_rfl) (by kernel_rfl) (by kernel_rfl) (fun _ _ _ h => h) (Or.inl ⟨by rfl, fun w' hS' => ?_⟩) (by assumption) ?_
          rotate_left
          · (try dsimp only at hS'); go_simp; (try rw [if_pos (by omega)]); try with_reducible rfl
          try simp only [Act.put, List.getElem_toArray, List.getElem_cons_zero, List.getElem_cons_succ, List.setIfInBounds_toArray, List.set_cons_zero, List.set_cons_succ]
          refine wpAnyH_done (by kernel_rfl) ?_ _
          try simp only [Act.put, List.setIfInBounds_toArray, List.set_cons_zero, List.set_cons_succ]
          go_wp2_with fail
          go_meet
          exact ⟨by rw [laterR, ← Hx0.out]; exact TM.base (by omega), X⟩
      · skip
        refine if_yes (by rfl) ?_
        try simp only [Act.put, List.setIfInBounds_toArray, List.set_cons_zero, List.set_cons_succ]
        go_simp
        obtain ⟨y8w, hy8w, By8w, sy8w, ey8w⟩ := one_box D #[.int .i64 x0] 3
        have TL : Ints y8w D.heap.size (.slice (some ⟨D.heap.size, 0, none⟩) 1 1) [x0] := by rw [hy8w.out]; exact Ints.lit D x0
        rw [← hy8w.out]
        have X := ext_trans X ey8w
        obtain ⟨bl, Hbl⟩ : ∃ b, Hid (b = D.heap.size) := ⟨_, rfl⟩
        rw [← Hbl.out] at TL ⊢
        have qbl : w4.heap.size ≤ bl := by rw [Hbl.out]; exact qD
        have qy8w : w4.heap.size ≤ y8w.heap.size := X.size
        have TLl : bl < y8w.heap.size := (TL.lt _ rfl).2
        refine hK.out _ _ ?_ (fun hHeld => ?_)
        · exact (X.cell (by exact hg0)).trans cx
        clear hK K'
        try simp only [Act.put, List.setIfInBounds_toArray, List.set_cons_zero, List.set_cons_succ]
        refine wpAnyH_ready (rs := [0]) (by kernel_rfl) (by simp) ?_
        refine AllReadyH.cons rfl (fun K' hK => ?_) AllReadyH.nil
        refine if_yes (by rfl) ?_
        try simp only [Act.put, List.setIfInBounds_toArray, List.set_cons_zero, List.set_cons_succ]
        go_simp
        obtain ⟨y9w, hy9w, By9w, sy9w, ey9w⟩ := one_box y8w #[] 3
        have TE : Ints y9w y8w.heap.size (.slice (some ⟨y8w.heap.size, 0, none⟩) 0 0) [] := Ints.ofBox By9w (Nat.le_refl _)
        rw [← hy9w.out]
        have X := ext_trans X ey9w
        have TL := TL.ext ey9w
        obtain ⟨be, Hbe⟩ : ∃ b, Hid (b = y8w.heap.size) := ⟨_, rfl⟩
        rw [← Hbe.out] at TE ⊢
        have qbe : w4.heap.size ≤ be := by rw [Hbe.out]; exact qy8w
        have qy9w : w4.heap.size ≤ y9w.heap.size := X.size
        have hbe2 : be ≤ y9w.heap.size := Nat.le_of_lt (TE.lt be rfl).2
        have hne : bl ≠ be := by have := TLl; rw [Hbe.out]; omega
        refine hK.out _ _ ?_ (fun hHeld => ?_)
        · exact (X.cell (by exact hg0)).trans cx
        clear hK K'
        try simp only [Act.put, List.setIfInBounds_toArray, List.set_cons_zero, List.set_cons_succ]
        refine wpAnyH_ready (rs := [3]) (by kernel_rfl) (by simp) ?_
        refine AllReadyH.cons rfl (fun K' hK => ?_) AllReadyH.nil
        refine if_yes (by rfl) ?_
        try simp only [Act.put, List.setIfInBounds_toArray, List.set_cons_zero, List.set_cons_succ]
        have hcell : ∀ t, t < l.length → y9w.cell? ⟨g2, 0 + t, none⟩ = some (.int .i64 (l.getD t 0)) := fun t ht => by rw [Nat.zero_add]; exact (B.out.ext X).cellT ht
        refine wp_appTail _ (.tmp 33) (.tmp 35) rfl be (.slice (some ⟨be, 0, none⟩) 0 0) [] rfl TE _ (l.length - 1) _ (l.drop 1) rfl (by rw [List.length_drop]) (by intro hq; first | (cases hq; done) | (simp at hq; done) | (split at hq <;> simp at hq)) (cells_from (o := 0) (i := 1) (c := c2) rfl hlc hcell (fun hq => by first | exact absurd Hca.out hq | (simp; done) | rfl)) (by simp; omega) (by omega) ?_
        intro v' y10w hv' hg'
        rw [List.nil_append] at hv'
        obtain ⟨an, cn, rfl, -⟩ := hv'.open
        have hdl : (l.drop 1).length = l.length - 1 := by rw [List.length_drop]
        rw [hdl] at hv'
        try rw [hdl]
        have TN := hv'
        have TL := TL.far hg' (fun q hq e => by simp [Value.ownBlock] at hq e; omega)
        have X := ext_grown X hg' (fun q hq => by simp [Value.ownBlock] at hq; omega)
        have qy10w : w4.heap.size ≤ y10w.heap.size := X.size
        have hbe2 : be ≤ y10w.heap.size := by have := hg'.size; omega
        clear hg' hv' TE hcell hdl
        refine hK.out _ _ ?_ (fun hHeld => ?_)
        · exact (X.cell (by exact hg0)).trans cx
        clear hK K'
        try simp only [Act.put, List.setIfInBounds_toArray, List.set_cons_zero, List.set_cons_succ]
        refine wpAnyH_ready (rs := [8]) (by kernel_rfl) (by simp) ?_
        refine AllReadyH.cons rfl (fun K' hK => ?_) AllReadyH.nil
        refine if_yes (by rfl) ?_
        try simp only [Act.put, List.setIfInBounds_toArray, List.set_cons_zero, List.set_cons_succ]
        refine wp_appI _ (.tmp 36) (.tmp 40) rfl be 0 (.slice an (l.length - 1) cn) (l.drop 1) rfl TN (.slice (some ⟨bl, 0, none⟩) 1 1) [x0] rfl (TL.base (Nat.zero_le _)) (by simp; omega) (by omega) ?_
        intro v' y11w hv' hg'
        obtain ⟨am, cm, rfl, -⟩ := hv'.open
        have hel : (l.drop 1 ++ [x0]).length = l.length - 1 + 1 := by simp
        rw [hel] at hv'
        have TM := hv'
        have X := ext_grown X hg' (fun q hq => by have := (TN.lt q hq).1; omega)
        clear hg' hv'
        refine hK.out _ _ ?_ (fun hHeld => ?_)
        · exact (X.cell (by exact hg0)).trans cx
        clear hK K'
        try simp only [Act.put, List.setIfInBounds_toArray, List.set_cons_zero, List.set_cons_succ]
        refine wpAnyH_take (i := 9) (v := ?_) rfl (by kernel_rfl) (by kernel_rfl) (by kernel_rfl) (fun _ _ _ h => h) (Or.inl ⟨by rfl, fun w' hS' => ?_⟩) (by assumption) ?_
        rotate_left
        · (try dsimp only at hS'); go_simp; (try rw [if_pos (by omega)]); try with_reducible rfl
        try simp only [Act.put, List.getElem_toArray, List.getElem_cons_zero, List.getElem_cons_succ, List.setIfInBounds_toArray, List.set_cons_zero, List.set_cons_succ]
        refine wpAnyH_done (by kernel_rfl) ?_ _
        try simp only [Act.put, List.setIfInBounds_toArray, List.set_cons_zero, List.set_cons_succ]
        go_wp2_with fail
        go_meet
        exact ⟨by rw [laterR, ← Hx0.out]; exact TM.base (by omega), X⟩
  rename World => wt
  obtain ⟨hLr, hbt⟩ := hcut
  have A0 := A0.ext hbt
  have V := Lib.hid (V.out.ext hbt)
  have B := Lib.hid (B.out.ext hbt)
  have E := ext_trans E hbt
  obtain ⟨aL, cL, rfl, -⟩ := hLr.open
  have Lr := Lib.hid hLr
  have hll := laterR_len hl1
  rw [hll] at Lr
  try rw [hll]
  clear hLr hbt cx hg0
  go_upto_region 11 with fail
  obtain ⟨wy, hwy, T0, hsy, E5⟩ := one_box wt #[] 3
  rw [← hwy.out]
  have O : Hid (Ints wy wt.heap.size (.slice (some ⟨wt.heap.size, 0, none⟩) 0 0) ((backR l).take 0)) := Lib.hid (Ints.ofBox T0 (Nat.le_refl _))
  have Hbl : Hid ((backR l).length = l.length) := Lib.hid List.length_reverse
  clear T0 hll
  have hwn : IntKind.i64.wrap ((l.length : Int) - 1) = (l.length : Int) - 1 := IntWalk.i64_in _ (by omega)
  go_wp2_with fail
  go_loopg [7, 8] l.length (fun m vo kk wx => ∃ k : Nat, k ≤ l.length ∧ m = l.length - k ∧ kk = .int .i64 ((l.length : Int) - 1 - k) ∧ Hid (Ints wx wt.heap.size vo ((backR l).take k)) ∧ Below wt.heap.size wt wx)
  case atStart => exact ⟨0, by omega, by omega, by simp, O, E5⟩
  case round =>
    clear O E5 hwn
    rename World => wx
    obtain ⟨k, hk, hgk, rfl, O, hb⟩ := hrel
    have Hk := Lib.hid hgk
    clear hgk
    have htl : ((backR l).take k).length = k := by rw [List.length_take, Hbl.out]; omega
    obtain ⟨ao, co, rfl, -⟩ := O.out.open
    rw [htl] at O ⊢
    by_cases hlt : k < l.length
    · have hj : l.length - 1 - k < l.length := by omega
      obtain ⟨i, Hi⟩ : ∃ i, Hid (i = l.length - 1 - k) := ⟨_, rfl⟩
      have hii : (l.length : Int) - 1 - (k : Int) = (i : Int) := by have := Hi.out; omega
      rw [← Hi.out] at hj
      rw [hii]
      obtain ⟨_, ha3, _, hg3, _, cx⟩ := (B.out.ext hb).at_ hj
      cases ha3
      obtain ⟨x, Hx⟩ : ∃ x, Hid (x = l.getD i 0) := ⟨_, rfl⟩
      rw [← Hx.out] at cx
      have hi0 : (0 : Int) ≤ (i : Int) := by omega
      have hnx : Hid ((backR l).take (k+1) = (backR l).take k ++ [x]) := by
        have hkl : k < (backR l).length := by rw [Hbl.out]; exact hlt
        rw [List.take_add_one, List.getElem?_eq_getElem hkl]
        refine Lib.hid (congrArg (fun z => (backR l).take k ++ [z]) ?_)
        have := backR_at hlt
        rw [List.getD_eq_getElem?_getD, List.getElem?_eq_getElem hkl] at this
        rw [Hx.out, Hi.out]; exact this
      have hwk : IntKind.i64.wrap ((i : Int) - 1) = (i : Int) - 1 := IntWalk.i64_in _ (by omega)
      go_wp2_with (at_builtin; refine wpl_appI _ rfl (.tmp 50) (.tmp 55) rfl wt.heap.size 0 (.slice ao k co) ((backR l).take k) rfl (O.out.alloc _) (.slice (some ⟨wx.heap.size, 0, none⟩) 1 1) [x] rfl ((Ints.lit wx _).base (Nat.zero_le _)) (by rw [htl]; simp; omega) (by have := hb.size; simp; omega) ?_; intro v9 w9 hv9 hg9)
      have hb := ext_grown (ext_alloc hb _) hg9 (fun q hq => (O.out.lt q hq).1)
      rw [← hnx.out] at hv9
      go_roundg (l.length - (k+1))
      case rel => exact ⟨k+1, by omega, rfl, by rw [show (l.length : Int) - 1 - ((k+1 : Nat) : Int) = (i : Int) - 1 by omega], Lib.hid hv9, hb⟩
      case measure => have := Hk.out; omega
    · have hkl : k = l.length := by omega
      have Br : Hid (Ints wx wt.heap.size (.slice ao k co) (backR l)) := by
        have h := O.out
        rw [show (backR l).take k = backR l by rw [hkl, ← Hbl.out, List.take_length]] at h
        exact Lib.hid h
      have hneg : (l.length : Int) - 1 - (k : Int) = -1 := by omega
      rw [hneg]
      clear O hkl htl hneg
      have A0 := A0.ext hb
      have V := Lib.hid (V.out.ext hb)
      have B := Lib.hid (B.out.ext hb)
      have Lr := Lib.hid (Lr.out.ext hb)
      have E := ext_trans E hb
      clear hb
      obtain ⟨rcA0, rzA0⟩ := (A0).rules; have rlA0 := (A0).lt
      go_wp2_with fail
      refine (impl_RingOk p _ _ (laterR l) _ (V.out.base (Nat.zero_le _)) (Lr.out.base (Nat.zero_le _))).mono ?_
      rintro e w5 ⟨rfl, hb5⟩
      clear rcA0 rzA0 rlA0
      have A0 := A0.ext hb5
      have V := Lib.hid (V.out.ext hb5)
      have B := Lib.hid (B.out.ext hb5)
      have Lr := Lib.hid (Lr.out.ext hb5)
      have Br := Lib.hid (Br.out.ext hb5)
      have E := ext_trans E hb5
      clear hb5
      rw [laterR_ring hl1, ← hok.out]
      have hee : (ok == ok) = true := by simp
      obtain ⟨rcA0, rzA0⟩ := (A0).rules; have rlA0 := (A0).lt
      go_wp2_with fail
      refine (impl_TurnedPlan p _ _ (V.out.base (Nat.zero_le _)) (by omega)).mono ?_
      rintro e w6 ⟨vT, rfl, hTr, hb6⟩
      clear rcA0 rzA0 rlA0
      have A0 := A0.ext hb6
      have V := Lib.hid (V.out.ext hb6)
      have B := Lib.hid (B.out.ext hb6)
      have Lr := Lib.hid (Lr.out.ext hb6)
      have Br := Lib.hid (Br.out.ext hb6)
      have E := ext_trans E hb6
      clear hb6
      obtain ⟨T, HT⟩ : ∃ T, Hid (T = p.turned) := ⟨_, rfl⟩
      rw [← HT.out] at hTr ⊢
      obtain ⟨aT, cT, rfl, -⟩ := hTr.open
      have Tr := Lib.hid hTr
      clear hTr
      obtain ⟨rcA0, rzA0⟩ := (A0).rules; have rlA0 := (A0).lt
      go_wp2_with fail
      refine (impl_RingOk T _ _ (backR l) _ (Tr.out.base (Nat.zero_le _)) (Br.out.base (Nat.zero_le _))).mono ?_
      rintro e w7 ⟨rfl, hb7⟩
      clear rcA0 rzA0 rlA0
      have A0 := A0.ext hb7
      have V := Lib.hid (V.out.ext hb7)
      have B := Lib.hid (B.out.ext hb7)
      have Lr := Lib.hid (Lr.out.ext hb7)
      have Br := Lib.hid (Br.out.ext hb7)
      have Tr := Lib.hid (Tr.out.ext hb7)
      have E := ext_trans E hb7
      clear hb7
      rw [show ringOk T (backR l) = ok by rw [HT.out, backR_ring, hok.out]]
      obtain ⟨rcA0, rzA0⟩ := (A0).rules; have rlA0 := (A0).lt
      go_wp2_with fail
      refine (laws_alive _).mono ?_
      rintro e w8 ⟨rfl, hb8⟩
      clear rcA0 rzA0 rlA0
      have A0 := A0.ext hb8
      have V := Lib.hid (V.out.ext hb8)
      have B := Lib.hid (B.out.ext hb8)
      have Lr := Lib.hid (Lr.out.ext hb8)
      have Br := Lib.hid (Br.out.ext hb8)
      have Tr := Lib.hid (Tr.out.ext hb8)
      have E := ext_trans E hb8
      clear hb8
      go_wp2_with fail
      go_ret
      exact ⟨rfl, E⟩
end Go.Proofs.Ytlcmhcfnmohgmaa
