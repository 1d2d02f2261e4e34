/- The draws of a project, hands and begins. No condition but that the reader, or the code's bytes, can be read. -/
import Derived.Test.YtdfcjhcnojgkiaaShuffle
import Derived.Test.YtdfcjhcnojgkiaaByS
import Derived.Test.YtdfcjhcnojgkiaaDrawn
namespace Go.Proofs.Ytdfcjhcnojgkiaa
open Go.RowKit
set_option linter.unusedVariables false
set_option linter.unusedSimpArgs false
def RetBegun (w : World) (g : Nat) : Ending → World → Prop := fun e w' => ∃ (v1 v2 v3 : Value) (l t b : List Int) (hd : Int), e = .returned (.tuple #[.agg #[v1, v2], .int .i64 hd, v3]) ∧
      Ints w' w.heap.size v1 l ∧ Ints w' w.heap.size v2 t ∧ Ints w' w.heap.size v3 b ∧ l.length ≤ 8 ∧ t.length ≤ 8 ∧ b.length ≤ 8 ∧ (∀ j, j < b.length → -1000 ≤ b.getD j 0 ∧ b.getD j 0 ≤ 1000) ∧ w.grownBy w' (some g)
theorem beginsBy_small (p : Pj) (h : Int) (o : List Int) : ∀ j, j < (p.beginsBy h o).length → -1000 ≤ (p.beginsBy h o).getD j 0 ∧ (p.beginsBy h o).getD j 0 ≤ 1000 := by
  intro j hj
  cases hf : p.ordFit h o
  · rw [show p.beginsBy h o = [] from if_neg (by rw [hf]; simp)] at hj
    simp at hj
  · have e := by_fit hf
    have h6 := (ok_upto (ordFit_in hf).1)
    have hb := begun_by hf p.lo.length (by omega)
    rw [e] at hj ⊢
    rw [by_len] at hj
    have h1 := hb.at_ j hj
    have h2 := h6.2.2.1 j hj
    have e2 : lF (p.byTo h o p.lo.length) j = (p.byTo h o p.lo.length).getD j 0 := rfl
    omega
set_option maxRecDepth 100000 in
set_option maxHeartbeats 16000000 in
theorem spec_l20Begun (B g m : Nat) (w : World) (h : Rd w B g m) (hm : m ≤ 90000) :
    Calls Try.prog 49 #[.pointer (some ⟨g, 0, none⟩)] w (RetBegun w g) := by
  have R := Lib.hid h
  have hgl := h.lt
  clear h
  go_enter Try.func49, Try.ntmps49
  go_upto_region 1 with fail
  obtain ⟨W, hW, R0, hs, E⟩ := one_box w #[.slice none 0 0, .slice none 0 0] 27
  rw [← hW.out]
  have G := Lib.hid (grown_of_ext (some g) E)
  have R := Lib.hid (R.out.ext E)
  clear E
  go_wp2_with fail
  refine (spec_l20Project' B g _ 12 _ R.out (by omega) (by omega)).mono ?_
  rintro e w1 ⟨v1, v2, l, t, rfl, h1, h2, hl, ht, hgw, hr, -⟩
  have R := Lib.hid hr
  have G := Lib.hid (grown_trans' G.out hgw)
  have R0 := R0.near hgw (by omega)
  have q1 := hgw.size
  have V1 := Lib.hid h1
  have V2 := Lib.hid h2
  have hV1 := h1.lt
  have hV2 := h2.lt
  obtain ⟨a1, c1, rfl, -⟩ := h1.open
  obtain ⟨a2, c2, rfl, -⟩ := h2.open
  have hV1 : ∀ q, (Value.slice a1 l.length c1).ownBlock = some q → q < w1.heap.size := fun q hq => (hV1 q hq).2
  have hV2 : ∀ q, (Value.slice a2 t.length c2).ownBlock = some q → q < w1.heap.size := fun q hq => (hV2 q hq).2
  have hP1 : w1.heap.size = w1.heap.size := rfl
  clear h1 h2 hgw hr
  go_upto_region 2 with fail
  obtain ⟨w2, hw2, P0, hs2, E2⟩ := one_box w1 #[.slice a1 l.length c1, .slice a2 t.length c2] 27
  rw [← hw2.out]
  have R0 := R0.ext E2
  have V1 := Lib.hid (V1.out.ext E2)
  have V2 := Lib.hid (V2.out.ext E2)
  have R := Lib.hid (R.out.ext E2)
  have G := Lib.hid (grown_ext' G.out E2)
  have q2 := hs2
  clear E2
  go_wp2_with fail
  refine (spec_pick B g _ 3 _ R.out (by omega)).mono ?_
  rintro e w3 ⟨x3, rfl, hx3, hy3, r3, g3, -⟩
  have R := Lib.hid r3
  have G := Lib.hid (grown_trans' G.out g3)
  have R0 := R0.near g3 (by omega)
  have P0 := P0.near g3 (by omega)
  have V1 := Lib.hid (V1.out.near g3 (by omega))
  have V2 := Lib.hid (V2.out.near g3 (by omega))
  have q3 := g3.size
  clear r3 g3
  go_wp2_with fail
  refine (spec_pick B g _ 40 _ R.out (by omega)).mono ?_
  rintro e w4 ⟨x4, rfl, hx4, hy4, r4, g4, -⟩
  have R := Lib.hid r4
  have G := Lib.hid (grown_trans' G.out g4)
  have R0 := R0.near g4 (by omega)
  have P0 := P0.near g4 (by omega)
  have V1 := Lib.hid (V1.out.near g4 (by omega))
  have V2 := Lib.hid (V2.out.near g4 (by omega))
  have q4 := g4.size
  clear r4 g4
  go_wp2_with fail
  refine (spec_pick B g _ 40 _ R.out (by omega)).mono ?_
  rintro e w5 ⟨x5, rfl, hx5, hy5, r5, g5, -⟩
  have R := Lib.hid r5
  have G := Lib.hid (grown_trans' G.out g5)
  have R0 := R0.near g5 (by omega)
  have P0 := P0.near g5 (by omega)
  have V1 := Lib.hid (V1.out.near g5 (by omega))
  have V2 := Lib.hid (V2.out.near g5 (by omega))
  have q5 := g5.size
  clear r5 g5
  go_upto_region 3 with fail
  generalize 1 + x3 + x4 / 39 - x5 / 39 = hd
  obtain ⟨rc1, rz1⟩ := (P0).rules; have rl1 := (P0).lt
  go_wp2_with fail
  refine (spec_ProjectOk ⟨l, t⟩ _ _ _ (V1.out.base (Nat.zero_le _)) (V2.out.base (Nat.zero_le _))).mono ?_
  rintro e w6 ⟨rfl, hb6⟩
  have R0 := R0.ext hb6
  have P0 := P0.ext hb6
  have V1 := Lib.hid (V1.out.ext hb6)
  have V2 := Lib.hid (V2.out.ext hb6)
  have R := Lib.hid (R.out.ext hb6)
  have G := Lib.hid (grown_ext' G.out hb6)
  have q6 := hb6.size
  clear hb6 rc1 rz1 rl1
  cases hok : Pj.ok ⟨l, t⟩
  · clear hok
    go_wp2_with fail
    go_upto_region 10 with fail
    obtain ⟨wy, hwy, T0, hsy, E5⟩ := one_box w6 #[] 3
    rw [← hwy.out]
    have R0 := R0.ext E5
    have P0 := P0.ext E5
    have V1 := Lib.hid (V1.out.ext E5)
    have V2 := Lib.hid (V2.out.ext E5)
    have R := Lib.hid (R.out.ext E5)
    have G := Lib.hid (grown_ext' G.out E5)
    have O : Hid (Ints wy w6.heap.size (.slice (some ⟨w6.heap.size, 0, none⟩) 0 0) []) := Lib.hid (Ints.ofBox T0 (Nat.le_refl _))
    have hwW : w1.heap.size < w6.heap.size ∧ W.heap.size ≤ w1.heap.size := by omega
    obtain ⟨wb, hwb⟩ : ∃ b, Hid (b = w6.heap.size) := ⟨_, rfl⟩
    rw [← hwb.out] at O hwW ⊢
    clear T0 E5
    go_wp2_with fail
    go_loopg [9, 10] l.length (fun z vo kk wr => ∃ (k : Nat) (l9 : List Int), k ≤ l.length ∧ z = l.length - k ∧ kk = .int .i64 k ∧ l9.length = k ∧ Hid (Ints wr wb vo l9) ∧ Hid (∀ j, j < l9.length → -1000 ≤ l9.getD j 0 ∧ l9.getD j 0 ≤ 1000) ∧
      Hid (Rd wr B g (m + 200 + 2 * k)) ∧ Hid (w.grownBy wr (some g)) ∧ Box wr w.heap.size 27 #[.slice none 0 0, .slice none 0 0] ∧ Box wr w1.heap.size 27 #[.slice a1 l.length c1, .slice a2 t.length c2] ∧ Hid (Ints wr W.heap.size (.slice a1 l.length c1) l) ∧ Hid (Ints wr W.heap.size (.slice a2 t.length c2) t) ∧ wb ≤ wr.heap.size)
    case atStart => exact ⟨0, [], by omega, by omega, rfl, rfl, O, Lib.hid (fun j hj => by simp at hj), Lib.hid (R.out.mono (by omega)), G, R0, P0, V1, V2, by have := O.out.lt _ rfl; omega⟩
    case round =>
      clear O R G R0 P0 V1 V2
      rename World => wr
      obtain ⟨k, l9, hk, hgk, rfl, hl9, O, Hbd, R, G, R0, P0, V1, V2, hwr⟩ := hrel
      have Hk := Lib.hid hgk
      clear hgk
      obtain ⟨ao, co, rfl, -⟩ := O.out.open
      rw [hl9] at O ⊢
      have hgW : g < wb := by omega
      obtain ⟨rc1, rz1⟩ := (P0).rules; have rl1 := (P0).lt
      by_cases hlt : k < l.length
      · go_wp2_with fail
        refine (spec_pick B g _ 20 _ R.out (by omega)).mono ?_
        rintro e w11 ⟨x11, rfl, hx11, hy11, r11, g11, -⟩
        have R := Lib.hid r11
        have G := Lib.hid (grown_trans' G.out g11)
        have R0 := R0.near g11 (by omega)
        have P0 := P0.near g11 (by omega)
        have V1 := Lib.hid (V1.out.near g11 (by omega))
        have V2 := Lib.hid (V2.out.near g11 (by omega))
        have O := Lib.hid (O.out.near g11 (by omega))
        have q11 := g11.size
        clear r11 g11
        clear rc1 rz1 rl1
        go_wp2_with fail
        refine (spec_pick B g _ 30 _ R.out (by omega)).mono ?_
        rintro e w12 ⟨x12, rfl, hx12, hy12, r12, g12, -⟩
        have R := Lib.hid r12
        have G := Lib.hid (grown_trans' G.out g12)
        have R0 := R0.near g12 (by omega)
        have P0 := P0.near g12 (by omega)
        have V1 := Lib.hid (V1.out.near g12 (by omega))
        have V2 := Lib.hid (V2.out.near g12 (by omega))
        have O := Lib.hid (O.out.near g12 (by omega))
        have q12 := g12.size
        clear r12 g12
        obtain ⟨f9, hf9⟩ : ∃ f, Hid (f = (x11 - x12 / 29)) := ⟨_, rfl⟩
        have hfb : -1000 ≤ f9 ∧ f9 ≤ 1000 := by
          rw [hf9.out]
          omega
        go_wp2_with (at_builtin; refine wpl_appI _ rfl (.tmp 69) (.tmp 76) rfl wb 0 (.slice ao k co) l9 rfl (O.out.alloc _) (.slice (some ⟨w12.heap.size, 0, none⟩) 1 1) [(x11 - x12 / 29)] rfl ((Ints.lit w12 _).base (Nat.zero_le _)) (by simp; omega) (by simp; omega) ?_; intro v9 w9 hv9 hg9)
        have hOl := Lib.hid O.out.lt
        have R0 := (R0.alloc _).grown hg9 (fun e => by have := hOl.out _ e.symm; omega)
        have P0l := P0.lt
        have P0 := (P0.alloc _).grown hg9 (fun e => by have := hOl.out _ e.symm; omega)
        have V1 := Lib.hid ((V1.out.alloc _).far hg9 (fun q hq e => by have := hOl.out _ e; have := hV1 q hq; omega))
        have V2 := Lib.hid ((V2.out.alloc _).far hg9 (fun q hq e => by have := hOl.out _ e; have := hV2 q hq; omega))
        have R := Lib.hid ((R.out.alloc _).grown hg9 (fun e => by have := hOl.out _ e.symm; omega) (fun q hq => by have := hOl.out _ hq; omega))
        have G := Lib.hid (grown_new G.out hg9 (fun q hq => by have := hOl.out _ hq; omega))
        have q9 := hg9.size
        rw [World.size_alloc] at q9
        rw [show x11 - x12 / 29 = f9 from hf9.out.symm] at hv9
        go_roundg (l.length - (k+1))
        case rel =>
          refine ⟨k+1, l9 ++ [f9], by omega, rfl, by go_num, by simp; omega, Lib.hid hv9, Lib.hid (fun j hj => ?_), Lib.hid (R.out.mono (by omega)), G, R0, P0, V1, V2, by omega⟩
          rw [List.length_append, List.length_singleton] at hj
          by_cases hjk : j < l9.length
          · rw [List.getD_eq_getElem?_getD, List.getElem?_append_left hjk, ← List.getD_eq_getElem?_getD]; exact Hbd.out j hjk
          · rw [List.getD_eq_getElem?_getD, List.getElem?_append_right (by omega), show j - l9.length = 0 by omega]; exact hfb
        case measure => have := Hk.out; omega
      · have hkl : k = l.length := by omega
        have hk8 : l9.length ≤ 8 := by omega
        clear hkl rc1 rz1 rl1
        obtain ⟨rc0, rz0⟩ := (R0).rules; have rl0 := (R0).lt
        obtain ⟨rc1, rz1⟩ := (P0).rules; have rl1 := (P0).lt
        go_wp2_with fail
        refine bodyPost_ret (v := .tuple #[.agg #[.slice a1 l.length c1, .slice a2 t.length c2], .int .i64 hd, .slice ao k co]) (by simp [results, Try.results49, go_sem, *]) rfl ?_
        refine ⟨_, _, _, l, t, l9, hd, rfl, (((V1.out.low (by dsimp only; omega) _).low (by dsimp only; omega) _).base (by omega)), (((V2.out.low (by dsimp only; omega) _).low (by dsimp only; omega) _).base (by omega)), (((O.out.low (by dsimp only; omega) _).low (by dsimp only; omega) _).base (by omega)), hl, ht, ?_, Hbd.out, grown_set' (grown_set' G.out (Nat.le_refl _) _) (Nat.le_refl _) _⟩
        exact hk8
  · clear hok
    go_wp2_with fail
    refine (spec_pick B g _ 4 _ R.out (by omega)).mono ?_
    rintro e w10 ⟨x10, rfl, hx10, hy10, r10, g10, -⟩
    have R := Lib.hid r10
    have G := Lib.hid (grown_trans' G.out g10)
    have R0 := R0.near g10 (by omega)
    have P0 := P0.near g10 (by omega)
    have V1 := Lib.hid (V1.out.near g10 (by omega))
    have V2 := Lib.hid (V2.out.near g10 (by omega))
    have q10 := g10.size
    clear r10 g10
    obtain ⟨w6, hw6⟩ : ∃ w6, w6 = w10 := ⟨_, rfl⟩
    subst hw6
    by_cases hx : 0 < x10
    · skip
      go_upto_region 4 with fail
      refine wp_region_held_drew (S := fun w' => w'.cell? ⟨w1.heap.size, 0, none⟩ = some (.slice a1 l.length c1) ∧ w'.cell? ⟨w1.heap.size, 1, none⟩ = some (.slice a2 t.length c2)) (by kernel_rfl) ?_ (fun hHeld => ?_)
      · exact ⟨P0.cell0 rfl, P0.cell0 rfl⟩
      have R := Lib.hid R.out.drew
      have G := Lib.hid (grown_drew' G.out)
      have V1 := Lib.hid V1.out.drew
      have V2 := Lib.hid V2.out.drew
      have R0 := R0.drew
      have P0 := P0.drew
      obtain ⟨d, hdd⟩ : ∃ d, Hid (d = w6.drew) := ⟨_, rfl⟩
      have qd : w6.heap.size ≤ d.heap.size := by rw [hdd.out]; exact Nat.le_refl _
      rw [← hdd.out] at R G V1 V2 R0 P0 hHeld ⊢
      try simp only [Act.put, List.setIfInBounds_toArray, List.set_cons_zero, List.set_cons_succ]
      refine wpAnyH_take (i := 0) (v := ?_) rfl (by kernel_rfl) (by kernel_rfl) (by kernel_rfl) (fun _ _ _ h => h) (Or.inl ⟨by rfl, fun w' hS' => ?_⟩) (by assumption) ?_
      rotate_left
      · (try dsimp only at hS'); go_simp; (try rw [if_pos (by omega)]); try with_reducible rfl
      try simp only [Act.put, List.getElem_toArray, List.getElem_cons_zero, List.getElem_cons_succ, List.setIfInBounds_toArray, List.set_cons_zero, List.set_cons_succ]
      refine wpAnyH_take (i := 1) (v := ?_) rfl (by kernel_rfl) (by kernel_rfl) (by kernel_rfl) (fun _ _ _ h => h) (Or.inl ⟨by rfl, fun w' hS' => ?_⟩) (by assumption) ?_
      rotate_left
      · (try dsimp only at hS'); go_simp; (try rw [if_pos (by omega)]); try with_reducible rfl
      try simp only [Act.put, List.getElem_toArray, List.getElem_cons_zero, List.getElem_cons_succ, List.setIfInBounds_toArray, List.set_cons_zero, List.set_cons_succ]
      refine wpAnyH_take (i := 2) (v := ?_) rfl (by kernel_rfl) (by kernel_rfl) (by kernel_rfl) (fun _ _ _ h => h) (Or.inl ⟨by rfl, fun w' hS' => ?_⟩) (by assumption) ?_
      rotate_left
      · (try dsimp only at hS'); go_simp; (try rw [if_pos (by omega)]); try with_reducible rfl
      try simp only [Act.put, List.getElem_toArray, List.getElem_cons_zero, List.getElem_cons_succ, List.setIfInBounds_toArray, List.set_cons_zero, List.set_cons_succ]
      refine wpAnyH_take (i := 3) (v := ?_) rfl (by kernel_rfl) (by kernel_rfl) (by kernel_rfl) (fun _ _ _ h => h) (Or.inl ⟨by rfl, fun w' hS' => ?_⟩) (by assumption) ?_
      rotate_left
      · (try dsimp only at hS'); go_simp; (try rw [if_pos (by omega)]); try with_reducible rfl
      try simp only [Act.put, List.getElem_toArray, List.getElem_cons_zero, List.getElem_cons_succ, List.setIfInBounds_toArray, List.set_cons_zero, List.set_cons_succ]
      refine wpAnyH_take (i := 4) (v := ?_) rfl (by kernel_rfl) (by kernel_rfl) (by kernel_rfl) (fun _ _ _ h => h) (Or.inl ⟨by rfl, fun w' hS' => ?_⟩) (by assumption) ?_
      rotate_left
      · (try dsimp only at hS'); go_simp; (try rw [if_pos (by omega)]); try with_reducible rfl
      try simp only [Act.put, List.getElem_toArray, List.getElem_cons_zero, List.getElem_cons_succ, List.setIfInBounds_toArray, List.set_cons_zero, List.set_cons_succ]
      refine wpAnyH_take (i := 5) (v := ?_) rfl (by kernel_rfl) (by kernel_rfl) (by kernel_rfl) (fun _ _ _ h => h) (Or.inl ⟨by rfl, fun w' hS' => ?_⟩) (by assumption) ?_
      rotate_left
      · (try dsimp only at hS'); go_simp; (try rw [if_pos (by omega)]); try with_reducible rfl
      try simp only [Act.put, List.getElem_toArray, List.getElem_cons_zero, List.getElem_cons_succ, List.setIfInBounds_toArray, List.set_cons_zero, List.set_cons_succ]
      refine wpAnyH_ready (rs := [6]) (by kernel_rfl) (by simp) ?_
      refine AllReadyH.cons rfl (fun K' hK => ?_) AllReadyH.nil
      refine if_yes (by rfl) ?_
      try simp only [Act.put, List.getElem_toArray, List.getElem_cons_zero, List.getElem_cons_succ, List.setIfInBounds_toArray, List.set_cons_zero, List.set_cons_succ]
      go_simp
      refine (spec_l20Shuffle B g _ l.length _ R.out (by omega) (by omega)).mono ?_
      rintro e w7 ⟨v5, o, rfl, ho, hol, hr, hgw⟩
      have R := Lib.hid hr
      have G := Lib.hid (grown_trans' G.out hgw)
      have V1 := Lib.hid (V1.out.near hgw (by omega))
      have V2 := Lib.hid (V2.out.near hgw (by omega))
      have R0 := R0.near hgw (by omega)
      have P0 := P0.near hgw (by omega)
      have q7 := hgw.size
      have O := Lib.hid ho
      obtain ⟨a5, c5, rfl, -⟩ := ho.open
      clear hr hgw ho hol
      go_wp2_with fail
      refine hK.out _ _ ?_ (fun hHeld => ?_)
      · exact ⟨P0.cell0 rfl, P0.cell0 rfl⟩
      clear hK K'
      try simp only [Act.put, List.setIfInBounds_toArray, List.set_cons_zero, List.set_cons_succ]
      refine wpAnyH_ready (rs := [7]) (by kernel_rfl) (by simp) ?_
      refine AllReadyH.cons rfl (fun K' hK => ?_) AllReadyH.nil
      refine if_yes (by rfl) ?_
      try simp only [Act.put, List.getElem_toArray, List.getElem_cons_zero, List.getElem_cons_succ, List.setIfInBounds_toArray, List.set_cons_zero, List.set_cons_succ]
      go_simp
      have HC := spec_BeginsBy (⟨l, t⟩ : Pj) (.slice a1 l.length c1) (.slice a2 t.length c2) (.slice a5 o.length c5) hd o w7 (V1.out.base (Nat.zero_le _)) (V2.out.base (Nat.zero_le _)) (O.out.base (Nat.zero_le _)) (by show l.length ≤ 4000000; omega)
      refine HC.mono ?_
      clear HC
      rintro e w8 ⟨v6, rfl, hb6, hb8⟩
      have R0 := R0.ext hb8
      have P0 := P0.ext hb8
      have V1 := Lib.hid (V1.out.ext hb8)
      have V2 := Lib.hid (V2.out.ext hb8)
      have R := Lib.hid (R.out.ext hb8)
      have G := Lib.hid (grown_ext' G.out hb8)
      have q8 := hb8.size
      obtain ⟨a6, c6, rfl, -⟩ := hb6.open
      obtain ⟨b, Hb⟩ : ∃ b : List Int, Hid (b = Pj.beginsBy ⟨l, t⟩ hd o) := ⟨_, rfl⟩
      have hbd : Hid (∀ j, j < b.length → -1000 ≤ b.getD j 0 ∧ b.getD j 0 ≤ 1000) := by rw [Hb.out]; exact Lib.hid (beginsBy_small _ _ _)
      have hbl : b.length ≤ 8 := by rw [Hb.out]; have := beginsBy_len6 ⟨l, t⟩ hd o; omega
      rw [← Hb.out] at hb6 ⊢
      have BB := Lib.hid hb6
      clear hb6 hb8
      obtain ⟨ok, Hok2⟩ : ∃ ok, Hid (ok = Pj.ordFit ⟨l, t⟩ hd o) := ⟨_, rfl⟩
      rw [← Hok2.out]
      go_wp2_with fail
      refine hK.out _ _ ?_ (fun hHeld => ?_)
      · exact ⟨P0.cell0 rfl, P0.cell0 rfl⟩
      clear hK K'
      try simp only [Act.put, List.setIfInBounds_toArray, List.set_cons_zero, List.set_cons_succ]
      refine wpAnyH_take (i := 8) (v := ?_) rfl (by kernel_rfl) (by kernel_rfl) (by kernel_rfl) (fun _ _ _ h => h) (Or.inl ⟨by rfl, fun w' hS' => ?_⟩) (by assumption) ?_
      rotate_left
      · (try dsimp only at hS'); go_simp; (try rw [if_pos (by omega)]); try with_reducible rfl
      try simp only [Act.put, List.getElem_toArray, List.getElem_cons_zero, List.getElem_cons_succ, List.setIfInBounds_toArray, List.set_cons_zero, List.set_cons_succ]
      refine wpAnyH_take (i := 9) (v := ?_) rfl (by kernel_rfl) (by kernel_rfl) (by kernel_rfl) (fun _ _ _ h => h) (Or.inl ⟨by rfl, fun w' hS' => ?_⟩) (by assumption) ?_
      rotate_left
      · (try dsimp only at hS'); go_simp; (try rw [if_pos (by omega)]); try with_reducible rfl
      try simp only [Act.put, List.getElem_toArray, List.getElem_cons_zero, List.getElem_cons_succ, List.setIfInBounds_toArray, List.set_cons_zero, List.set_cons_succ]
      refine wpAnyH_take (i := 10) (v := ?_) rfl (by kernel_rfl) (by kernel_rfl) (by kernel_rfl) (fun _ _ _ h => h) (Or.inl ⟨by rfl, fun w' hS' => ?_⟩) (by assumption) ?_
      rotate_left
      · (try dsimp only at hS'); go_simp; (try rw [if_pos (by omega)]); try with_reducible rfl
      try simp only [Act.put, List.getElem_toArray, List.getElem_cons_zero, List.getElem_cons_succ, List.setIfInBounds_toArray, List.set_cons_zero, List.set_cons_succ]
      refine wpAnyH_take (i := 11) (v := ?_) rfl (by kernel_rfl) (by kernel_rfl) (by kernel_rfl) (fun _ _ _ h => h) (Or.inl ⟨by rfl, fun w' hS' => ?_⟩) (by assumption) ?_
      rotate_left
      · (try dsimp only at hS'); go_simp; (try rw [if_pos (by omega)]); try with_reducible rfl
      try simp only [Act.put, List.getElem_toArray, List.getElem_cons_zero, List.getElem_cons_succ, List.setIfInBounds_toArray, List.set_cons_zero, List.set_cons_succ]
      refine wpAnyH_take (i := 12) (v := ?_) rfl (by kernel_rfl) (by kernel_rfl) (by kernel_rfl) (fun _ _ _ h => h) (Or.inl ⟨by rfl, fun w' hS' => ?_⟩) (by assumption) ?_
      rotate_left
      · (try dsimp only at hS'); go_simp; (try rw [if_pos (by omega)]); try with_reducible rfl
      try simp only [Act.put, List.getElem_toArray, List.getElem_cons_zero, List.getElem_cons_succ, List.setIfInBounds_toArray, List.set_cons_zero, List.set_cons_succ]
      refine wpAnyH_done (by kernel_rfl) ?_ _
      try simp only [Act.put, List.setIfInBounds_toArray, List.set_cons_zero, List.set_cons_succ]
      cases hok2 : ok
      · clear hok2 BB
        go_wp2_with fail
        go_upto_region 10 with fail
        obtain ⟨wy, hwy, T0, hsy, E5⟩ := one_box w8 #[] 3
        rw [← hwy.out]
        have R0 := R0.ext E5
        have P0 := P0.ext E5
        have V1 := Lib.hid (V1.out.ext E5)
        have V2 := Lib.hid (V2.out.ext E5)
        have R := Lib.hid (R.out.ext E5)
        have G := Lib.hid (grown_ext' G.out E5)
        have O : Hid (Ints wy w8.heap.size (.slice (some ⟨w8.heap.size, 0, none⟩) 0 0) []) := Lib.hid (Ints.ofBox T0 (Nat.le_refl _))
        have hwW : w1.heap.size < w8.heap.size ∧ W.heap.size ≤ w1.heap.size := by omega
        obtain ⟨wb, hwb⟩ : ∃ b, Hid (b = w8.heap.size) := ⟨_, rfl⟩
        rw [← hwb.out] at O hwW ⊢
        clear T0 E5
        go_wp2_with fail
        go_loopg [9, 10] l.length (fun z vo kk wr => ∃ (k : Nat) (l9 : List Int), k ≤ l.length ∧ z = l.length - k ∧ kk = .int .i64 k ∧ l9.length = k ∧ Hid (Ints wr wb vo l9) ∧ Hid (∀ j, j < l9.length → -1000 ≤ l9.getD j 0 ∧ l9.getD j 0 ≤ 1000) ∧
          Hid (Rd wr B g (m + 200 + 2 * k)) ∧ Hid (w.grownBy wr (some g)) ∧ Box wr w.heap.size 27 #[.slice none 0 0, .slice none 0 0] ∧ Box wr w1.heap.size 27 #[.slice a1 l.length c1, .slice a2 t.length c2] ∧ Hid (Ints wr W.heap.size (.slice a1 l.length c1) l) ∧ Hid (Ints wr W.heap.size (.slice a2 t.length c2) t) ∧ wb ≤ wr.heap.size)
        case atStart => exact ⟨0, [], by omega, by omega, rfl, rfl, O, Lib.hid (fun j hj => by simp at hj), Lib.hid (R.out.mono (by omega)), G, R0, P0, V1, V2, by have := O.out.lt _ rfl; omega⟩
        case round =>
          clear O R G R0 P0 V1 V2
          rename World => wr
          obtain ⟨k, l9, hk, hgk, rfl, hl9, O, Hbd, R, G, R0, P0, V1, V2, hwr⟩ := hrel
          have Hk := Lib.hid hgk
          clear hgk
          obtain ⟨ao, co, rfl, -⟩ := O.out.open
          rw [hl9] at O ⊢
          have hgW : g < wb := by omega
          obtain ⟨rc1, rz1⟩ := (P0).rules; have rl1 := (P0).lt
          by_cases hlt : k < l.length
          · go_wp2_with fail
            refine (spec_pick B g _ 20 _ R.out (by omega)).mono ?_
            rintro e w11 ⟨x11, rfl, hx11, hy11, r11, g11, -⟩
            have R := Lib.hid r11
            have G := Lib.hid (grown_trans' G.out g11)
            have R0 := R0.near g11 (by omega)
            have P0 := P0.near g11 (by omega)
            have V1 := Lib.hid (V1.out.near g11 (by omega))
            have V2 := Lib.hid (V2.out.near g11 (by omega))
            have O := Lib.hid (O.out.near g11 (by omega))
            have q11 := g11.size
            clear r11 g11
            clear rc1 rz1 rl1
            go_wp2_with fail
            refine (spec_pick B g _ 30 _ R.out (by omega)).mono ?_
            rintro e w12 ⟨x12, rfl, hx12, hy12, r12, g12, -⟩
            have R := Lib.hid r12
            have G := Lib.hid (grown_trans' G.out g12)
            have R0 := R0.near g12 (by omega)
            have P0 := P0.near g12 (by omega)
            have V1 := Lib.hid (V1.out.near g12 (by omega))
            have V2 := Lib.hid (V2.out.near g12 (by omega))
            have O := Lib.hid (O.out.near g12 (by omega))
            have q12 := g12.size
            clear r12 g12
            obtain ⟨f9, hf9⟩ : ∃ f, Hid (f = (x11 - x12 / 29)) := ⟨_, rfl⟩
            have hfb : -1000 ≤ f9 ∧ f9 ≤ 1000 := by
              rw [hf9.out]
              omega
            go_wp2_with (at_builtin; refine wpl_appI _ rfl (.tmp 69) (.tmp 76) rfl wb 0 (.slice ao k co) l9 rfl (O.out.alloc _) (.slice (some ⟨w12.heap.size, 0, none⟩) 1 1) [(x11 - x12 / 29)] rfl ((Ints.lit w12 _).base (Nat.zero_le _)) (by simp; omega) (by simp; omega) ?_; intro v9 w9 hv9 hg9)
            have hOl := Lib.hid O.out.lt
            have R0 := (R0.alloc _).grown hg9 (fun e => by have := hOl.out _ e.symm; omega)
            have P0l := P0.lt
            have P0 := (P0.alloc _).grown hg9 (fun e => by have := hOl.out _ e.symm; omega)
            have V1 := Lib.hid ((V1.out.alloc _).far hg9 (fun q hq e => by have := hOl.out _ e; have := hV1 q hq; omega))
            have V2 := Lib.hid ((V2.out.alloc _).far hg9 (fun q hq e => by have := hOl.out _ e; have := hV2 q hq; omega))
            have R := Lib.hid ((R.out.alloc _).grown hg9 (fun e => by have := hOl.out _ e.symm; omega) (fun q hq => by have := hOl.out _ hq; omega))
            have G := Lib.hid (grown_new G.out hg9 (fun q hq => by have := hOl.out _ hq; omega))
            have q9 := hg9.size
            rw [World.size_alloc] at q9
            rw [show x11 - x12 / 29 = f9 from hf9.out.symm] at hv9
            go_roundg (l.length - (k+1))
            case rel =>
              refine ⟨k+1, l9 ++ [f9], by omega, rfl, by go_num, by simp; omega, Lib.hid hv9, Lib.hid (fun j hj => ?_), Lib.hid (R.out.mono (by omega)), G, R0, P0, V1, V2, by omega⟩
              rw [List.length_append, List.length_singleton] at hj
              by_cases hjk : j < l9.length
              · rw [List.getD_eq_getElem?_getD, List.getElem?_append_left hjk, ← List.getD_eq_getElem?_getD]; exact Hbd.out j hjk
              · rw [List.getD_eq_getElem?_getD, List.getElem?_append_right (by omega), show j - l9.length = 0 by omega]; exact hfb
            case measure => have := Hk.out; omega
          · have hkl : k = l.length := by omega
            have hk8 : l9.length ≤ 8 := by omega
            clear hkl rc1 rz1 rl1
            obtain ⟨rc0, rz0⟩ := (R0).rules; have rl0 := (R0).lt
            obtain ⟨rc1, rz1⟩ := (P0).rules; have rl1 := (P0).lt
            go_wp2_with fail
            refine bodyPost_ret (v := .tuple #[.agg #[.slice a1 l.length c1, .slice a2 t.length c2], .int .i64 hd, .slice ao k co]) (by simp [results, Try.results49, go_sem, *]) rfl ?_
            refine ⟨_, _, _, l, t, l9, hd, rfl, (((V1.out.low (by dsimp only; omega) _).low (by dsimp only; omega) _).base (by omega)), (((V2.out.low (by dsimp only; omega) _).low (by dsimp only; omega) _).base (by omega)), (((O.out.low (by dsimp only; omega) _).low (by dsimp only; omega) _).base (by omega)), hl, ht, ?_, Hbd.out, grown_set' (grown_set' G.out (Nat.le_refl _) _) (Nat.le_refl _) _⟩
            exact hk8
      · by_cases hb0 : 0 < b.length
        · have hb0i : (0 : Int) < (b.length : Int) := by omega
          go_wp2_with fail
          refine (spec_odd B g _ 4 _ R.out (by omega) (by omega)).mono ?_
          rintro e w9 ⟨x9, rfl, hr, hgw, -⟩
          have R := Lib.hid hr
          have G := Lib.hid (grown_trans' G.out hgw)
          have V1 := Lib.hid (V1.out.near hgw (by omega))
          have V2 := Lib.hid (V2.out.near hgw (by omega))
          have BB := Lib.hid (BB.out.near hgw (by omega))
          have R0 := R0.near hgw (by omega)
          have P0 := P0.near hgw (by omega)
          have q9 := hgw.size
          clear hr hgw
          cases x9
          · skip
            obtain ⟨rc0, rz0⟩ := (R0).rules; have rl0 := (R0).lt
            obtain ⟨rc1, rz1⟩ := (P0).rules; have rl1 := (P0).lt
            go_wp2_with fail
            refine bodyPost_ret (v := .tuple #[.agg #[.slice a1 l.length c1, .slice a2 t.length c2], .int .i64 hd, .slice a6 b.length c6]) (by simp [results, Try.results49, go_sem, *]) rfl ?_
            refine ⟨_, _, _, l, t, b, hd, rfl, (((V1.out.low (by dsimp only; omega) _).low (by dsimp only; omega) _).base (by omega)), (((V2.out.low (by dsimp only; omega) _).low (by dsimp only; omega) _).base (by omega)), (((BB.out.low (by dsimp only; omega) _).low (by dsimp only; omega) _).base (by omega)), hl, ht, ?_, hbd.out, grown_set' (grown_set' G.out (Nat.le_refl _) _) (Nat.le_refl _) _⟩
            exact hbl
          · go_wp2_with fail
            refine (spec_pick B g _ b.length _ R.out (by omega)).mono ?_
            rintro e w14 ⟨x14, rfl, hx14, hy14, r14, g14, -⟩
            have R := Lib.hid r14
            have G := Lib.hid (grown_trans' G.out g14)
            have R0 := R0.near g14 (by omega)
            have P0 := P0.near g14 (by omega)
            have V1 := Lib.hid (V1.out.near g14 (by omega))
            have V2 := Lib.hid (V2.out.near g14 (by omega))
            have BB := Lib.hid (BB.out.near g14 (by omega))
            have q14 := g14.size
            clear r14 g14
            go_wp2_with fail
            refine (spec_pick B g _ 20 _ R.out (by omega)).mono ?_
            rintro e w15 ⟨x15, rfl, hx15, hy15, r15, g15, -⟩
            have R := Lib.hid r15
            have G := Lib.hid (grown_trans' G.out g15)
            have R0 := R0.near g15 (by omega)
            have P0 := P0.near g15 (by omega)
            have V1 := Lib.hid (V1.out.near g15 (by omega))
            have V2 := Lib.hid (V2.out.near g15 (by omega))
            have BB := Lib.hid (BB.out.near g15 (by omega))
            have q15 := g15.size
            clear r15 g15
            obtain ⟨i, rfl⟩ : ∃ i : Nat, x14 = (i : Int) := ⟨x14.toNat, by omega⟩
            have hib : i < b.length := by omega
            obtain ⟨g6, ha6, hg6b, hg6, hfz, cb⟩ := BB.out.at_ hib
            subst ha6
            have hV1f := fun q hq => Nat.ne_of_lt (hV1 q hq)
            have hP0l := hP1
            go_upto_region 8 with fail
            have BB := Lib.hid (BB.out.set i x15)
            have R0 := R0.far (p := ⟨g6, i, none⟩) (by dsimp only; omega) (.int .i64 x15)
            have P0 := P0.far (p := ⟨g6, i, none⟩) (by dsimp only; omega) (.int .i64 x15)
            have V1 := Lib.hid (V1.out.far (grown_set (i := i) (World.grownBy.refl _ (some g6)) (.int .i64 x15)) (fun q hq e => by injection e with e; have := hV1 q hq; omega))
            have V2 := Lib.hid (V2.out.far (grown_set (i := i) (World.grownBy.refl _ (some g6)) (.int .i64 x15)) (fun q hq e => by injection e with e; have := hV2 q hq; omega))
            have G := Lib.hid (grown_set' (k := g6) (i := i) G.out (by omega) (.int .i64 x15))
            obtain ⟨wz, hwz⟩ : ∃ wz, Hid (wz = w15.setCell ⟨g6, i, none⟩ (.int .i64 x15)) := ⟨_, rfl⟩
            rw [← hwz.out] at BB R0 P0 V1 V2 G ⊢
            have hsl : (b.set i x15).length ≤ 8 := by rw [List.length_set]; exact hbl
            have hbd2 : ∀ j, j < (b.set i x15).length → -1000 ≤ (b.set i x15).getD j 0 ∧ (b.set i x15).getD j 0 ≤ 1000 := by
              intro j hj
              rw [List.length_set] at hj
              rw [List.getD_eq_getElem?_getD, List.getElem?_set]
              by_cases hij : i = j
              · subst hij; rw [if_pos rfl, if_pos hib]; show -1000 ≤ x15 ∧ x15 ≤ 1000; omega
              · rw [if_neg hij, ← List.getD_eq_getElem?_getD]; exact hbd.out j hj
            obtain ⟨rc0, rz0⟩ := (R0).rules; have rl0 := (R0).lt
            obtain ⟨rc1, rz1⟩ := (P0).rules; have rl1 := (P0).lt
            go_wp2_with fail
            refine bodyPost_ret (v := .tuple #[.agg #[.slice a1 l.length c1, .slice a2 t.length c2], .int .i64 hd, .slice (some ⟨g6, 0, none⟩) b.length c6]) (by simp [results, Try.results49, go_sem, *]) rfl ?_
            refine ⟨_, _, _, l, t, (b.set i x15), hd, rfl, (((V1.out.low (by dsimp only; omega) _).low (by dsimp only; omega) _).base (by omega)), (((V2.out.low (by dsimp only; omega) _).low (by dsimp only; omega) _).base (by omega)), (((BB.out.low (by dsimp only; omega) _).low (by dsimp only; omega) _).base (by omega)), hl, ht, ?_, hbd2, grown_set' (grown_set' G.out (Nat.le_refl _) _) (Nat.le_refl _) _⟩
            exact hsl
        · have hb0i : ¬ ((0 : Int) < (b.length : Int)) := by omega
          obtain ⟨rc0, rz0⟩ := (R0).rules; have rl0 := (R0).lt
          obtain ⟨rc1, rz1⟩ := (P0).rules; have rl1 := (P0).lt
          go_wp2_with fail
          refine bodyPost_ret (v := .tuple #[.agg #[.slice a1 l.length c1, .slice a2 t.length c2], .int .i64 hd, .slice a6 b.length c6]) (by simp [results, Try.results49, go_sem, *]) rfl ?_
          refine ⟨_, _, _, l, t, b, hd, rfl, (((V1.out.low (by dsimp only; omega) _).low (by dsimp only; omega) _).base (by omega)), (((V2.out.low (by dsimp only; omega) _).low (by dsimp only; omega) _).base (by omega)), (((BB.out.low (by dsimp only; omega) _).low (by dsimp only; omega) _).base (by omega)), hl, ht, ?_, hbd.out, grown_set' (grown_set' G.out (Nat.le_refl _) _) (Nat.le_refl _) _⟩
          exact hbl
    · skip
      go_upto_region 10 with fail
      obtain ⟨wy, hwy, T0, hsy, E5⟩ := one_box w6 #[] 3
      rw [← hwy.out]
      have R0 := R0.ext E5
      have P0 := P0.ext E5
      have V1 := Lib.hid (V1.out.ext E5)
      have V2 := Lib.hid (V2.out.ext E5)
      have R := Lib.hid (R.out.ext E5)
      have G := Lib.hid (grown_ext' G.out E5)
      have O : Hid (Ints wy w6.heap.size (.slice (some ⟨w6.heap.size, 0, none⟩) 0 0) []) := Lib.hid (Ints.ofBox T0 (Nat.le_refl _))
      have hwW : w1.heap.size < w6.heap.size ∧ W.heap.size ≤ w1.heap.size := by omega
      obtain ⟨wb, hwb⟩ : ∃ b, Hid (b = w6.heap.size) := ⟨_, rfl⟩
      rw [← hwb.out] at O hwW ⊢
      clear T0 E5
      go_wp2_with fail
      go_loopg [9, 10] l.length (fun z vo kk wr => ∃ (k : Nat) (l9 : List Int), k ≤ l.length ∧ z = l.length - k ∧ kk = .int .i64 k ∧ l9.length = k ∧ Hid (Ints wr wb vo l9) ∧ Hid (∀ j, j < l9.length → -1000 ≤ l9.getD j 0 ∧ l9.getD j 0 ≤ 1000) ∧
        Hid (Rd wr B g (m + 200 + 2 * k)) ∧ Hid (w.grownBy wr (some g)) ∧ Box wr w.heap.size 27 #[.slice none 0 0, .slice none 0 0] ∧ Box wr w1.heap.size 27 #[.slice a1 l.length c1, .slice a2 t.length c2] ∧ Hid (Ints wr W.heap.size (.slice a1 l.length c1) l) ∧ Hid (Ints wr W.heap.size (.slice a2 t.length c2) t) ∧ wb ≤ wr.heap.size)
      case atStart => exact ⟨0, [], by omega, by omega, rfl, rfl, O, Lib.hid (fun j hj => by simp at hj), Lib.hid (R.out.mono (by omega)), G, R0, P0, V1, V2, by have := O.out.lt _ rfl; omega⟩
      case round =>
        clear O R G R0 P0 V1 V2
        rename World => wr
        obtain ⟨k, l9, hk, hgk, rfl, hl9, O, Hbd, R, G, R0, P0, V1, V2, hwr⟩ := hrel
        have Hk := Lib.hid hgk
        clear hgk
        obtain ⟨ao, co, rfl, -⟩ := O.out.open
        rw [hl9] at O ⊢
        have hgW : g < wb := by omega
        obtain ⟨rc1, rz1⟩ := (P0).rules; have rl1 := (P0).lt
        by_cases hlt : k < l.length
        · go_wp2_with fail
          refine (spec_pick B g _ 20 _ R.out (by omega)).mono ?_
          rintro e w11 ⟨x11, rfl, hx11, hy11, r11, g11, -⟩
          have R := Lib.hid r11
          have G := Lib.hid (grown_trans' G.out g11)
          have R0 := R0.near g11 (by omega)
          have P0 := P0.near g11 (by omega)
          have V1 := Lib.hid (V1.out.near g11 (by omega))
          have V2 := Lib.hid (V2.out.near g11 (by omega))
          have O := Lib.hid (O.out.near g11 (by omega))
          have q11 := g11.size
          clear r11 g11
          clear rc1 rz1 rl1
          go_wp2_with fail
          refine (spec_pick B g _ 30 _ R.out (by omega)).mono ?_
          rintro e w12 ⟨x12, rfl, hx12, hy12, r12, g12, -⟩
          have R := Lib.hid r12
          have G := Lib.hid (grown_trans' G.out g12)
          have R0 := R0.near g12 (by omega)
          have P0 := P0.near g12 (by omega)
          have V1 := Lib.hid (V1.out.near g12 (by omega))
          have V2 := Lib.hid (V2.out.near g12 (by omega))
          have O := Lib.hid (O.out.near g12 (by omega))
          have q12 := g12.size
          clear r12 g12
          obtain ⟨f9, hf9⟩ : ∃ f, Hid (f = (x11 - x12 / 29)) := ⟨_, rfl⟩
          have hfb : -1000 ≤ f9 ∧ f9 ≤ 1000 := by
            rw [hf9.out]
            omega
          go_wp2_with (at_builtin; refine wpl_appI _ rfl (.tmp 69) (.tmp 76) rfl wb 0 (.slice ao k co) l9 rfl (O.out.alloc _) (.slice (some ⟨w12.heap.size, 0, none⟩) 1 1) [(x11 - x12 / 29)] rfl ((Ints.lit w12 _).base (Nat.zero_le _)) (by simp; omega) (by simp; omega) ?_; intro v9 w9 hv9 hg9)
          have hOl := Lib.hid O.out.lt
          have R0 := (R0.alloc _).grown hg9 (fun e => by have := hOl.out _ e.symm; omega)
          have P0l := P0.lt
          have P0 := (P0.alloc _).grown hg9 (fun e => by have := hOl.out _ e.symm; omega)
          have V1 := Lib.hid ((V1.out.alloc _).far hg9 (fun q hq e => by have := hOl.out _ e; have := hV1 q hq; omega))
          have V2 := Lib.hid ((V2.out.alloc _).far hg9 (fun q hq e => by have := hOl.out _ e; have := hV2 q hq; omega))
          have R := Lib.hid ((R.out.alloc _).grown hg9 (fun e => by have := hOl.out _ e.symm; omega) (fun q hq => by have := hOl.out _ hq; omega))
          have G := Lib.hid (grown_new G.out hg9 (fun q hq => by have := hOl.out _ hq; omega))
          have q9 := hg9.size
          rw [World.size_alloc] at q9
          rw [show x11 - x12 / 29 = f9 from hf9.out.symm] at hv9
          go_roundg (l.length - (k+1))
          case rel =>
            refine ⟨k+1, l9 ++ [f9], by omega, rfl, by go_num, by simp; omega, Lib.hid hv9, Lib.hid (fun j hj => ?_), Lib.hid (R.out.mono (by omega)), G, R0, P0, V1, V2, by omega⟩
            rw [List.length_append, List.length_singleton] at hj
            by_cases hjk : j < l9.length
            · rw [List.getD_eq_getElem?_getD, List.getElem?_append_left hjk, ← List.getD_eq_getElem?_getD]; exact Hbd.out j hjk
            · rw [List.getD_eq_getElem?_getD, List.getElem?_append_right (by omega), show j - l9.length = 0 by omega]; exact hfb
          case measure => have := Hk.out; omega
        · have hkl : k = l.length := by omega
          have hk8 : l9.length ≤ 8 := by omega
          clear hkl rc1 rz1 rl1
          obtain ⟨rc0, rz0⟩ := (R0).rules; have rl0 := (R0).lt
          obtain ⟨rc1, rz1⟩ := (P0).rules; have rl1 := (P0).lt
          go_wp2_with fail
          refine bodyPost_ret (v := .tuple #[.agg #[.slice a1 l.length c1, .slice a2 t.length c2], .int .i64 hd, .slice ao k co]) (by simp [results, Try.results49, go_sem, *]) rfl ?_
          refine ⟨_, _, _, l, t, l9, hd, rfl, (((V1.out.low (by dsimp only; omega) _).low (by dsimp only; omega) _).base (by omega)), (((V2.out.low (by dsimp only; omega) _).low (by dsimp only; omega) _).base (by omega)), (((O.out.low (by dsimp only; omega) _).low (by dsimp only; omega) _).base (by omega)), hl, ht, ?_, Hbd.out, grown_set' (grown_set' G.out (Nat.le_refl _) _) (Nat.le_refl _) _⟩
          exact hk8
def RetBegunD (w : World) : Ending → World → Prop := fun e w' => ∃ (v1 v2 v3 : Value) (l t b : List Int) (hd : Int), e = .returned (.tuple #[.agg #[v1, v2], .int .i64 hd, v3]) ∧
      Ints w' w.heap.size v1 l ∧ Ints w' w.heap.size v2 t ∧ Ints w' w.heap.size v3 b ∧ l.length ≤ 8 ∧ t.length ≤ 8 ∧ b.length ≤ 8 ∧ (∀ j, j < b.length → -1000 ≤ b.getD j 0 ∧ b.getD j 0 ≤ 1000) ∧ Below w.heap.size w w'
set_option maxHeartbeats 2000000 in
theorem spec_DrawBeginsOk (a : Option Addr) (n cap : Nat) (w : World) (h : Byt w w.heap.size a n cap) : Calls Try.prog 25 #[.slice a n cap] w (RetBegunD w) := by
  have H := Lib.hid h
  clear h
  go_enter Try.func25, Try.ntmps25
  go_wp2_with fail
  obtain ⟨W, hW, B0, hs, E⟩ := one_box w #[.slice none 0 0, .slice none 0 0] 27
  rw [← hW.out]
  refine (spec_l20Open a n cap W w.heap.size (by omega) (H.out.below E)).mono ?_
  rintro e w1 ⟨rfl, hR, hb1⟩
  have E := ext_trans E hb1
  have B0 := B0.ext hb1
  have R := Lib.hid hR
  have q1 := hb1.size
  clear hR hb1
  go_wp2_with fail
  refine (spec_l20Begun w.heap.size W.heap.size 0 w1 R.out (by omega)).mono ?_
  rintro e w2 ⟨v1, v2, v3, l, t, b, hd, rfl, h1, h2, h3, hl, ht, hbl, hbd, hg⟩
  have E := ext_grown E hg (fun k hk => by cases hk; omega)
  have B0 := B0.grown hg (fun e => by injection e with e; omega)
  have q2 := hg.size
  obtain ⟨a1, c1, rfl, -⟩ := h1.open
  obtain ⟨a2, c2, rfl, -⟩ := h2.open
  obtain ⟨a3, c3, rfl, -⟩ := h3.open
  have V1 := Lib.hid h1; have V2 := Lib.hid h2; have V3 := Lib.hid h3; have Hbd := Lib.hid hbd
  clear h1 h2 h3 hg hbd
  obtain ⟨rc2, rz2⟩ := (B0).rules; have rl2 := (B0).lt
  go_wp2_with fail
  refine bodyPost_ret (v := .tuple #[.agg #[.slice a1 l.length c1, .slice a2 t.length c2], .int .i64 hd, .slice a3 b.length c3]) (by simp [results, Try.results25, go_sem, *]) rfl ?_
  exact ⟨_, _, _, l, t, b, hd, rfl, ((V1.out.low (by dsimp only; omega) _).low (by dsimp only; omega) _).base (by omega), ((V2.out.low (by dsimp only; omega) _).low (by dsimp only; omega) _).base (by omega), ((V3.out.low (by dsimp only; omega) _).low (by dsimp only; omega) _).base (by omega), hl, ht, hbl, Hbd.out, ext_set (ext_set E (Nat.le_refl _) _) (Nat.le_refl _) _⟩
def RetBegunE (w : World) : Ending → World → Prop := fun e w' => ∃ (v1 v2 v3 : Value) (l t b : List Int), e = .returned (.tuple #[.agg #[v1, v2], v3]) ∧
      Ints w' w.heap.size v1 l ∧ Ints w' w.heap.size v2 t ∧ Ints w' w.heap.size v3 b ∧ l.length ≤ 8 ∧ t.length ≤ 8 ∧ b.length ≤ 8 ∧ (∀ j, j < b.length → -1000 ≤ b.getD j 0 ∧ b.getD j 0 ≤ 1000) ∧ Below w.heap.size w w'
set_option maxHeartbeats 2000000 in
theorem spec_DrawEndOf (a : Option Addr) (n cap : Nat) (w : World) (h : Byt w w.heap.size a n cap) : Calls Try.prog 30 #[.slice a n cap] w (RetBegunE w) := by
  have H := Lib.hid h
  clear h
  go_enter Try.func30, Try.ntmps30
  go_wp2_with fail
  obtain ⟨W, hW, B0, hs, E⟩ := one_box w #[.slice none 0 0, .slice none 0 0] 27
  rw [← hW.out]
  refine (spec_l20Open a n cap W w.heap.size (by omega) (H.out.below E)).mono ?_
  rintro e w1 ⟨rfl, hR, hb1⟩
  have E := ext_trans E hb1
  have B0 := B0.ext hb1
  have R := Lib.hid hR
  have q1 := hb1.size
  clear hR hb1
  go_wp2_with fail
  refine (spec_l20Begun w.heap.size W.heap.size 0 w1 R.out (by omega)).mono ?_
  rintro e w2 ⟨v1, v2, v3, l, t, b, hd, rfl, h1, h2, h3, hl, ht, hbl, hbd, hg⟩
  have E := ext_grown E hg (fun k hk => by cases hk; omega)
  have B0 := B0.grown hg (fun e => by injection e with e; omega)
  have q2 := hg.size
  obtain ⟨a1, c1, rfl, -⟩ := h1.open
  obtain ⟨a2, c2, rfl, -⟩ := h2.open
  obtain ⟨a3, c3, rfl, -⟩ := h3.open
  have V1 := Lib.hid h1; have V2 := Lib.hid h2; have V3 := Lib.hid h3; have Hbd := Lib.hid hbd
  clear h1 h2 h3 hg hbd
  go_upto_region 2 with fail
  obtain ⟨w3, hw3, P0, hs3, E3⟩ := one_box w2 #[.slice a1 l.length c1, .slice a2 t.length c2] 27
  rw [← hw3.out]
  have V1 := Lib.hid (V1.out.ext E3); have V2 := Lib.hid (V2.out.ext E3); have V3 := Lib.hid (V3.out.ext E3)
  have B0 := B0.ext E3
  have E := ext_trans E E3
  clear E3
  obtain ⟨rc1, rz1⟩ := (P0).rules; have rl1 := (P0).lt
  obtain ⟨rc2, rz2⟩ := (B0).rules; have rl2 := (B0).lt
  go_wp2_with fail
  refine bodyPost_ret (v := .tuple #[.agg #[.slice a1 l.length c1, .slice a2 t.length c2], .slice a3 b.length c3]) (by simp [results, Try.results30, go_sem, *]) rfl ?_
  exact ⟨_, _, _, l, t, b, rfl, ((V1.out.low (by dsimp only; omega) _).low (by dsimp only; omega) _).base (by omega), ((V2.out.low (by dsimp only; omega) _).low (by dsimp only; omega) _).base (by omega), ((V3.out.low (by dsimp only; omega) _).low (by dsimp only; omega) _).base (by omega), hl, ht, hbl, Hbd.out, ext_set (ext_set E (Nat.le_refl _) _) (Nat.le_refl _) _⟩
end Go.Proofs.Ytdfcjhcnojgkiaa
