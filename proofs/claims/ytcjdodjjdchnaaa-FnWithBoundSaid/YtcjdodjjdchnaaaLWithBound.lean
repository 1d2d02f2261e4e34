/- The walk of FnWithBound: it returns true, whatever codes came in. Condition: the bytes of the codes can be read. -/
import Derived.Test.YtcjdodjjdchnaaaDrawWB
import Derived.Test.YtcjdodjjdchnaaaSame
import Derived.Test.YtcjdodjjdchnaaaPlanOut
import Derived.Test.YtcjdodjjdchnaaaPlanTimes
namespace Go.Proofs.Ytcjdodjjdchnaaa
open Go.RowKit
set_option linter.unusedVariables false
set_option linter.unusedSimpArgs false
theorem plus_parts {p : Pl} {b : Bd} (h : (p.plus [b]).ok = true) : p.ok = true ∧ (⟨p.pts, [b]⟩ : Pl).ok = true ∧ 1 ≤ p.pts ∧ p.pts ≤ 6 := by
  simp only [Pl.ok, Pl.plus, Bool.and_eq_true, decide_eq_true_eq, List.all_append, List.length_append, List.length_cons, List.length_nil, List.all_cons, List.all_nil] at *
  obtain ⟨h1, h2, h3, h4⟩ := h
  have := (inB_iff _ _ _).1 h1
  exact ⟨⟨h1, by omega, h3⟩, ⟨h1, by omega, h4⟩, by omega, by omega⟩
theorem plus_keeps {p : Pl} {b : Bd} (h : (p.plus [b]).ok = true) (l : List Int) : keeps (p.plus [b]) l = (keeps p l && keeps ⟨p.pts, [b]⟩ l) := by
  obtain ⟨h1, h2, -⟩ := plus_parts h
  rw [Bool.eq_iff_iff]
  simp only [keeps, timesOk, h, h1, h2, Bool.and_eq_true, decide_eq_true_eq, Bool.true_and]
  simp only [Pl.plus, List.all_append, Bool.and_eq_true]
  constructor
  · rintro ⟨⟨x, y⟩, z, u⟩; exact ⟨⟨⟨x, y⟩, z⟩, ⟨x, y⟩, u⟩
  · rintro ⟨⟨⟨x, y⟩, z⟩, -, u⟩; exact ⟨⟨x, y⟩, z, u⟩
theorem told_plus {p : Pl} {b : Bd} (h : (p.plus [b]).ok = true) : (p.plus [b]).told = p.plus [b] := if_pos h
theorem told_not {p : Pl} (h : p.ok = false) : p.told = Pl.zero := if_neg (by simp [h])
set_option maxRecDepth 100000 in
set_option maxHeartbeats 8000000 in
theorem walk_WithBound (a : Option Addr) (n cap : Nat) (a2 : Option Addr) (n2 cap2 : Nat) (w : World) (h : Byt w w.heap.size a n cap) (h2 : Byt w w.heap.size a2 n2 cap2) :
    Calls Try.prog 5 #[.slice a n cap, .slice a2 n2 cap2] w fun e w' => e = .returned (.bool true) ∧ Below w.heap.size w w' := by
  have H := Lib.hid h
  obtain ⟨hncap, hcap, -⟩ := id h
  clear h
  have H2 := Lib.hid h2
  obtain ⟨hncap2, hcap2, -⟩ := id h2
  clear h2
  by_cases hbig : 1048576 < n
  · go_enter Try.func5, Try.ntmps5
    go_wp2_with fail
    go_ret
    exact ⟨rfl, ext_refl _⟩
  by_cases hbig2 : 1048576 < n2
  · go_enter Try.func5, Try.ntmps5
    go_wp2_with fail
    go_ret
    exact ⟨rfl, ext_refl _⟩
  go_enter Try.func5, Try.ntmps5
  go_wp2_with fail
  refine (spec_DrawWithBound a n cap w H.out).mono ?_
  rintro e w1 ⟨bs, p, b, rfl, hV, hl, h0, h7, hb1⟩
  have E := hb1
  clear hb1
  obtain ⟨av, cv, rfl, -⟩ := hV.open
  have V := Lib.hid hV
  clear hV
  go_upto_region 4 with fail
  obtain ⟨w2, hw2, A0, A1, hs2, hb2⟩ := two_boxes w1 #[.int .i64 p.pts, .slice av p.bs.length cv] #[.int .i64 b.f, .int .i64 b.t, .int .i64 b.m] 25 40
  rw [← hw2.out]
  have V := Lib.hid (V.out.ext hb2)
  have E := ext_trans E hb2
  clear hb2
  obtain ⟨rcA0, rzA0⟩ := (A0).rules; have rlA0 := (A0).lt
  obtain ⟨rcA1, rzA1⟩ := (A1).rules; have rlA1 := (A1).lt
  go_wp2_with fail
  refine (impl_WithBound p b _ _ (V.out.base (Nat.zero_le _)) (by omega)).mono ?_
  rintro e w3 ⟨xs, rfl, hX, hb3⟩
  clear rcA0 rzA0 rlA0 rcA1 rzA1 rlA1
  have A0 := A0.ext hb3
  have A1 := A1.ext hb3
  have V := Lib.hid (V.out.ext hb3)
  have E := ext_trans E hb3
  clear hb3
  obtain ⟨ax, cx, rfl, -⟩ := hX.open
  have X := Lib.hid hX
  clear hX
  obtain ⟨T, hT⟩ : ∃ T : Pl, Hid (T = (p.plus [b]).told) := ⟨_, rfl⟩
  obtain ⟨k, hk⟩ : ∃ k : Bool, Hid (k = (p.plus [b]).ok) := ⟨_, rfl⟩
  rw [← hT.out] at X ⊢
  rw [← hk.out]
  obtain ⟨rcA0, rzA0⟩ := (A0).rules; have rlA0 := (A0).lt
  obtain ⟨rcA1, rzA1⟩ := (A1).rules; have rlA1 := (A1).lt
  go_upto_region 5 with fail
  obtain ⟨w4, hw4, A2, hs4, hb4⟩ := one_box w3 #[.int .i64 T.pts, .slice ax T.bs.length cx] 25
  rw [← hw4.out]
  clear rcA0 rzA0 rlA0 rcA1 rzA1 rlA1
  have A0 := A0.ext hb4
  have A1 := A1.ext hb4
  have V := Lib.hid (V.out.ext hb4)
  have X := Lib.hid (X.out.ext hb4)
  have E := ext_trans E hb4
  clear hb4
  obtain ⟨rcA0, rzA0⟩ := (A0).rules; have rlA0 := (A0).lt
  obtain ⟨rcA1, rzA1⟩ := (A1).rules; have rlA1 := (A1).lt
  obtain ⟨rcA2, rzA2⟩ := (A2).rules; have rlA2 := (A2).lt
  go_wp2_with fail
  refine (spec_WithBound p b _ _ (V.out.base (Nat.zero_le _)) (by omega)).mono ?_
  rintro e w5 ⟨ys, rfl, hY, hb5⟩
  clear rcA0 rzA0 rlA0 rcA1 rzA1 rlA1 rcA2 rzA2 rlA2
  have A0 := A0.ext hb5
  have A1 := A1.ext hb5
  have A2 := A2.ext hb5
  have V := Lib.hid (V.out.ext hb5)
  have X := Lib.hid (X.out.ext hb5)
  have E := ext_trans E hb5
  clear hb5
  obtain ⟨ay, cy, rfl, -⟩ := hY.open
  have Y := Lib.hid hY
  clear hY
  rw [← hT.out] at Y ⊢
  rw [← hk.out]
  obtain ⟨rcA0, rzA0⟩ := (A0).rules; have rlA0 := (A0).lt
  obtain ⟨rcA1, rzA1⟩ := (A1).rules; have rlA1 := (A1).lt
  obtain ⟨rcA2, rzA2⟩ := (A2).rules; have rlA2 := (A2).lt
  go_upto_region 6 with fail
  obtain ⟨w6, hw6, A3, hs6, hb6⟩ := one_box w5 #[.int .i64 T.pts, .slice ay T.bs.length cy] 25
  rw [← hw6.out]
  clear rcA0 rzA0 rlA0 rcA1 rzA1 rlA1 rcA2 rzA2 rlA2
  have A0 := A0.ext hb6
  have A1 := A1.ext hb6
  have A2 := A2.ext hb6
  have V := Lib.hid (V.out.ext hb6)
  have X := Lib.hid (X.out.ext hb6)
  have Y := Lib.hid (Y.out.ext hb6)
  have E := ext_trans E hb6
  clear hb6
  obtain ⟨rcA0, rzA0⟩ := (A0).rules; have rlA0 := (A0).lt
  obtain ⟨rcA1, rzA1⟩ := (A1).rules; have rlA1 := (A1).lt
  obtain ⟨rcA2, rzA2⟩ := (A2).rules; have rlA2 := (A2).lt
  obtain ⟨rcA3, rzA3⟩ := (A3).rules; have rlA3 := (A3).lt
  go_wp2_with fail
  refine (laws_samePlan T T _ _ _ (X.out.base (Nat.zero_le _)) (Y.out.base (Nat.zero_le _))).mono ?_
  rintro e w7 ⟨rfl, hb7⟩
  clear rcA0 rzA0 rlA0 rcA1 rzA1 rlA1 rcA2 rzA2 rlA2 rcA3 rzA3 rlA3
  have A0 := A0.ext hb7
  have A1 := A1.ext hb7
  have A2 := A2.ext hb7
  have A3 := A3.ext hb7
  have V := Lib.hid (V.out.ext hb7)
  have X := Lib.hid (X.out.ext hb7)
  have Y := Lib.hid (Y.out.ext hb7)
  have E := ext_trans E hb7
  clear hb7
  rw [decide_eq_true rfl]
  obtain ⟨rcA0, rzA0⟩ := (A0).rules; have rlA0 := (A0).lt
  obtain ⟨rcA1, rzA1⟩ := (A1).rules; have rlA1 := (A1).lt
  obtain ⟨rcA2, rzA2⟩ := (A2).rules; have rlA2 := (A2).lt
  obtain ⟨rcA3, rzA3⟩ := (A3).rules; have rlA3 := (A3).lt
  cases k
  · have HT := Lib.hid (show T = Pl.zero by rw [hT.out]; exact told_not hk.out.symm)
    go_wp2_with fail
    refine (laws_samePlan T Pl.zero _ (.slice none 0 0) _ (X.out.base (Nat.zero_le _)) (Bds.nil _ _)).mono ?_
    rintro e w8 ⟨rfl, hb8⟩
    clear rcA0 rzA0 rlA0 rcA1 rzA1 rlA1 rcA2 rzA2 rlA2 rcA3 rzA3 rlA3
    have A0 := A0.ext hb8
    have A1 := A1.ext hb8
    have A2 := A2.ext hb8
    have A3 := A3.ext hb8
    have V := Lib.hid (V.out.ext hb8)
    have X := Lib.hid (X.out.ext hb8)
    have Y := Lib.hid (Y.out.ext hb8)
    have E := ext_trans E hb8
    clear hb8
    rw [decide_eq_true HT.out]
    obtain ⟨rcA0, rzA0⟩ := (A0).rules; have rlA0 := (A0).lt
    obtain ⟨rcA1, rzA1⟩ := (A1).rules; have rlA1 := (A1).lt
    obtain ⟨rcA2, rzA2⟩ := (A2).rules; have rlA2 := (A2).lt
    obtain ⟨rcA3, rzA3⟩ := (A3).rules; have rlA3 := (A3).lt
    go_wp2_with fail
    refine (laws_alive _).mono ?_
    rintro e w9 ⟨rfl, hb9⟩
    clear rcA0 rzA0 rlA0 rcA1 rzA1 rlA1 rcA2 rzA2 rlA2 rcA3 rzA3 rlA3
    have A0 := A0.ext hb9
    have A1 := A1.ext hb9
    have A2 := A2.ext hb9
    have A3 := A3.ext hb9
    have V := Lib.hid (V.out.ext hb9)
    have X := Lib.hid (X.out.ext hb9)
    have Y := Lib.hid (Y.out.ext hb9)
    have E := ext_trans E hb9
    clear hb9
    go_wp2_with fail
    go_ret
    exact ⟨rfl, E⟩
  · have HT := Lib.hid (show T = p.plus [b] by rw [hT.out]; exact told_plus hk.out.symm)
    have Hok := Lib.hid hk.out.symm
    have hpp := plus_parts Hok.out
    obtain ⟨N, hN⟩ := Int.eq_ofNat_of_zero_le h0
    have HN := Lib.hid hN
    have hN6 : 1 ≤ N ∧ N ≤ 6 := by omega
    have Hp1 := Lib.hid hpp.1; have Hp2 := Lib.hid hpp.2.1
    clear hpp hN
    go_wp2_with fail
    obtain ⟨wl, hwl, T0, hsl, hbl⟩ := one_box w7 #[] 3
    rw [← hwl.out]
    have R0 := Lib.hid (Ints.ofBox T0 (Nat.le_refl _))
    clear T0
    go_loopg [11, 12] N (fun m v kk wr => ∃ (j : Nat) (l : List Int), j ≤ N ∧ m = N - j ∧ kk = .int .i64 j ∧ Hid (l.length = j) ∧ Hid (Ints wr w7.heap.size v l) ∧ Below w7.heap.size w7 wr ∧ wl.heap.size ≤ wr.heap.size)
    case atStart => exact ⟨0, [], by omega, by omega, rfl, Lib.hid rfl, R0, hbl, Nat.le_refl _⟩
    case round =>
      clear R0
      obtain ⟨j, l, hj, hgk, rfl, hlj, R, hbel, hsz⟩ := hrel
      have Hk := Lib.hid hgk
      clear hgk
      obtain ⟨al, cl, rfl, -⟩ := R.out.open
      have A0 := A0.ext hbel
      have A1 := A1.ext hbel
      have A2 := A2.ext hbel
      have A3 := A3.ext hbel
      have E1 := ext_trans E hbel
      clear rcA0 rzA0 rlA0 rcA1 rzA1 rlA1 rcA2 rzA2 rlA2 rcA3 rzA3 rlA3
      obtain ⟨rcA0, rzA0⟩ := (A0).rules; have rlA0 := (A0).lt
      obtain ⟨rcA1, rzA1⟩ := (A1).rules; have rlA1 := (A1).lt
      obtain ⟨rcA2, rzA2⟩ := (A2).rules; have rlA2 := (A2).lt
      obtain ⟨rcA3, rzA3⟩ := (A3).rules; have rlA3 := (A3).lt
      by_cases hlt : j < N
      · have hltp : (j : Int) < p.pts := by have := HN.out; omega
        by_cases hm2 : n2 < 1
        · skip
          go_wp2_with (at_builtin; refine wpl_appI _ rfl (.tmp 76) (.tmp 78) rfl w7.heap.size _ (.slice al l.length cl) l rfl (R.out.alloc _) _ [0] rfl (Ints.lit _ _) (by have := hlj.out; simp; omega) (by have := hbel.size; simp; omega) ?_; intro v' w5 hv' hg')
          have hz := hg'.size
          simp only [World.size_alloc] at hz
          have lt := R.out.lt
          have hb5 : Below w7.heap.size w7 w5 := ext_grown (ext_alloc hbel (.cells #[.int .i64 (0)] 3)) hg' (fun q hq => (lt q hq).1)
          go_roundg (N - (j+1))
          case rel => exact ⟨j+1, l ++ [0], by omega, rfl, by go_num, Lib.hid (by have := hlj.out; simp; omega), Lib.hid hv', hb5, by omega⟩
          case measure => have := Hk.out; omega
        · have hl0 : (0:Int) < n2 := by omega
          have q1 : 0 ≤ (j:Int) % (n2:Int) := Int.emod_nonneg _ (by omega)
          have q2 : (j:Int) % (n2:Int) < n2 := Int.emod_lt_of_pos _ hl0
          have t1 : ((j:Int)).tmod n2 = (j:Int) % n2 := Int.tmod_eq_emod_of_nonneg (by omega)
          obtain ⟨gb, go, z, rfl, hgb, cz, hz0, hz1⟩ := (H2.out.below E1).2.2 (j % n2) (Nat.mod_lt _ (by omega))
          go_wp2_with (at_builtin; refine wpl_appI _ rfl (.tmp 76) (.tmp 78) rfl w7.heap.size _ (.slice al l.length cl) l rfl (R.out.alloc _) _ [z % 40] rfl (Ints.lit _ _) (by have := hlj.out; simp; omega) (by have := hbel.size; simp; omega) ?_; intro v' w5 hv' hg')
          have hz := hg'.size
          simp only [World.size_alloc] at hz
          have lt := R.out.lt
          have hb5 : Below w7.heap.size w7 w5 := ext_grown (ext_alloc hbel (.cells #[.int .i64 (z % 40)] 3)) hg' (fun q hq => (lt q hq).1)
          go_roundg (N - (j+1))
          case rel => exact ⟨j+1, l ++ [z % 40], by omega, rfl, by go_num, Lib.hid (by have := hlj.out; simp; omega), Lib.hid hv', hb5, by omega⟩
          case measure => have := Hk.out; omega
      · have hjN : j = N := by omega
        subst hjN
        have hltp : ¬ (j : Int) < p.pts := by have := HN.out; omega
        have V := Lib.hid (V.out.ext hbel)
        have X := Lib.hid (X.out.ext hbel)
        have Y := Lib.hid (Y.out.ext hbel)
        have E := E1
        clear E1 hbel
        have R := Lib.hid (R.out.base (Nat.zero_le _))
        go_upto_region 19 with fail
        obtain ⟨wm, hwm, L0, A4, hsm, hbm⟩ := two_boxes wr #[.int .i64 b.f, .int .i64 b.t, .int .i64 b.m] #[.int .i64 p.pts, .slice (some ⟨wr.heap.size, 0, none⟩) 1 1] 40 25
        rw [← hwm.out]
        clear rcA0 rzA0 rlA0 rcA1 rzA1 rlA1 rcA2 rzA2 rlA2 rcA3 rzA3 rlA3
        have A0 := A0.ext hbm
        have A1 := A1.ext hbm
        have A2 := A2.ext hbm
        have A3 := A3.ext hbm
        have V := Lib.hid (V.out.ext hbm)
        have X := Lib.hid (X.out.ext hbm)
        have Y := Lib.hid (Y.out.ext hbm)
        have R := Lib.hid (R.out.ext hbm)
        have E := ext_trans E hbm
        clear hbm
        have S := Lib.hid (Bds.ofBox1 (base := 0) L0 (Nat.zero_le _))
        clear L0
        obtain ⟨kp, hkp⟩ : ∃ k, Hid (k = keeps p l) := ⟨_, rfl⟩
        obtain ⟨ka, hka⟩ : ∃ k, Hid (k = keeps ⟨p.pts, [b]⟩ l) := ⟨_, rfl⟩
        have Hk2 : Hid (keeps T l = (kp && ka)) := by rw [HT.out, plus_keeps Hok.out l, ← hkp.out, ← hka.out]; exact Lib.hid rfl
        cases kp
        · have Hkt := Lib.hid (show keeps T l = false by rw [Hk2.out]; rfl)
          refine wp_region_held_drew (S := fun w' => w'.cell? ⟨w1.heap.size, 0, none⟩ = some (Value.int .i64 p.pts) ∧ w'.cell? ⟨w1.heap.size, 1, none⟩ = some (Value.slice av p.bs.length cv) ∧ w'.cell? ⟨w3.heap.size, 0, none⟩ = some (Value.int .i64 T.pts) ∧ w'.cell? ⟨w3.heap.size, 1, none⟩ = some (Value.slice ax T.bs.length cx) ∧ w'.cell? ⟨(wr.heap.size + 1), 0, none⟩ = some (Value.int .i64 p.pts) ∧ w'.cell? ⟨(wr.heap.size + 1), 1, none⟩ = some (Value.slice (some ⟨wr.heap.size, 0, none⟩) 1 1)) (by kernel_rfl) ?_ (fun hHeld => ?_)
          · exact ⟨A0.cell0 rfl, A0.cell0 rfl, A2.cell0 rfl, A2.cell0 rfl, A4.cell0 rfl, A4.cell0 rfl⟩
          obtain ⟨d8, hd8⟩ : ∃ d, Hid (d = wm.drew) := ⟨_, rfl⟩
          have hb8 : Below wm.heap.size wm d8 := by rw [hd8.out]; exact ext_drew (ext_refl _)
          rw [← hd8.out] at hHeld ⊢
          have A0 := A0.ext hb8
          have A1 := A1.ext hb8
          have A2 := A2.ext hb8
          have A3 := A3.ext hb8
          have A4 := A4.ext hb8
          have V := Lib.hid (V.out.ext hb8)
          have X := Lib.hid (X.out.ext hb8)
          have Y := Lib.hid (Y.out.ext hb8)
          have R := Lib.hid (R.out.ext hb8)
          have S := Lib.hid (S.out.ext hb8)
          have E := ext_trans E hb8
          clear hb8
          try simp only [Act.put, List.setIfInBounds_toArray, List.set_cons_zero, List.set_cons_succ]
          refine wpAnyH_take (i := 0) (v := ?_) rfl (by kernel_rfl) (by kernel_rfl) (by kernel_rfl) (fun _ _ _ h => h) (Or.inl ⟨by rfl, fun w' hS' => ?_⟩) (by assumption) ?_
          rotate_left
          · (try dsimp only at hS'); go_simp; (try rw [if_pos (by omega)]); try with_reducible rfl
          try simp only [Act.put, List.getElem_toArray, List.getElem_cons_zero, List.getElem_cons_succ, List.setIfInBounds_toArray, List.set_cons_zero, List.set_cons_succ]
          refine wpAnyH_ready (rs := [1]) (by kernel_rfl) (by simp) ?_
          refine AllReadyH.cons rfl (fun K' hK => ?_) AllReadyH.nil
          refine if_yes (by rfl) ?_
          try simp only [Act.put, List.getElem_toArray, List.getElem_cons_zero, List.getElem_cons_succ, List.setIfInBounds_toArray, List.set_cons_zero, List.set_cons_succ]
          go_simp
          refine (impl_PlanOk T _ _ (X.out.base (Nat.zero_le _))).mono ?_
          rintro e w9 ⟨rfl, hb9⟩
          have A0 := A0.ext hb9
          have A1 := A1.ext hb9
          have A2 := A2.ext hb9
          have A3 := A3.ext hb9
          have A4 := A4.ext hb9
          have V := Lib.hid (V.out.ext hb9)
          have X := Lib.hid (X.out.ext hb9)
          have Y := Lib.hid (Y.out.ext hb9)
          have R := Lib.hid (R.out.ext hb9)
          have S := Lib.hid (S.out.ext hb9)
          have E := ext_trans E hb9
          clear hb9
          rw [show T.ok = true by rw [HT.out]; exact Hok.out]
          go_wp2_with fail
          refine hK.out _ _ ?_ (fun hHeld => ?_)
          · exact ⟨A0.cell0 rfl, A0.cell0 rfl, A2.cell0 rfl, A2.cell0 rfl, A4.cell0 rfl, A4.cell0 rfl⟩
          clear hK K'
          try simp only [Act.put, List.setIfInBounds_toArray, List.set_cons_zero, List.set_cons_succ]
          refine wpAnyH_take (i := 2) (v := ?_) rfl (by kernel_rfl) (by kernel_rfl) (by kernel_rfl) (fun _ _ _ h => h) (Or.inl ⟨by rfl, fun w' hS' => ?_⟩) (by assumption) ?_
          rotate_left
          · (try dsimp only at hS'); go_simp; (try rw [if_pos (by omega)]); try with_reducible rfl
          try simp only [Act.put, List.getElem_toArray, List.getElem_cons_zero, List.getElem_cons_succ, List.setIfInBounds_toArray, List.set_cons_zero, List.set_cons_succ]
          refine wpAnyH_take (i := 3) (v := ?_) rfl (by kernel_rfl) (by kernel_rfl) (by kernel_rfl) (fun _ _ _ h => h) (Or.inl ⟨by rfl, fun w' hS' => ?_⟩) (by assumption) ?_
          rotate_left
          · (try dsimp only at hS'); go_simp; (try rw [if_pos (by omega)]); try with_reducible rfl
          try simp only [Act.put, List.getElem_toArray, List.getElem_cons_zero, List.getElem_cons_succ, List.setIfInBounds_toArray, List.set_cons_zero, List.set_cons_succ]
          refine wpAnyH_take (i := 4) (v := ?_) rfl (by kernel_rfl) (by kernel_rfl) (by kernel_rfl) (fun _ _ _ h => h) (Or.inl ⟨by rfl, fun w' hS' => ?_⟩) (by assumption) ?_
          rotate_left
          · (try dsimp only at hS'); go_simp; (try rw [if_pos (by omega)]); try with_reducible rfl
          try simp only [Act.put, List.getElem_toArray, List.getElem_cons_zero, List.getElem_cons_succ, List.setIfInBounds_toArray, List.set_cons_zero, List.set_cons_succ]
          refine wpAnyH_take (i := 6) (v := ?_) rfl (by kernel_rfl) (by kernel_rfl) (by kernel_rfl) (fun _ _ _ h => h) (Or.inl ⟨by rfl, fun w' hS' => ?_⟩) (by assumption) ?_
          rotate_left
          · (try dsimp only at hS'); go_simp; (try rw [if_pos (by omega)]); try with_reducible rfl
          try simp only [Act.put, List.getElem_toArray, List.getElem_cons_zero, List.getElem_cons_succ, List.setIfInBounds_toArray, List.set_cons_zero, List.set_cons_succ]
          refine wpAnyH_take (i := 7) (v := ?_) rfl (by kernel_rfl) (by kernel_rfl) (by kernel_rfl) (fun _ _ _ h => h) (Or.inl ⟨by rfl, fun w' hS' => ?_⟩) (by assumption) ?_
          rotate_left
          · (try dsimp only at hS'); go_simp; (try rw [if_pos (by omega)]); try with_reducible rfl
          try simp only [Act.put, List.getElem_toArray, List.getElem_cons_zero, List.getElem_cons_succ, List.setIfInBounds_toArray, List.set_cons_zero, List.set_cons_succ]
          refine wpAnyH_ready (rs := [5]) (by kernel_rfl) (by simp) ?_
          refine AllReadyH.cons rfl (fun K' hK => ?_) AllReadyH.nil
          refine if_yes (by rfl) ?_
          try simp only [Act.put, List.getElem_toArray, List.getElem_cons_zero, List.getElem_cons_succ, List.setIfInBounds_toArray, List.set_cons_zero, List.set_cons_succ]
          go_simp
          refine (impl_KeepsOk T _ _ l _ (X.out.base (Nat.zero_le _)) R.out).mono ?_
          rintro e w10 ⟨rfl, hb10⟩
          have A0 := A0.ext hb10
          have A1 := A1.ext hb10
          have A2 := A2.ext hb10
          have A3 := A3.ext hb10
          have A4 := A4.ext hb10
          have V := Lib.hid (V.out.ext hb10)
          have X := Lib.hid (X.out.ext hb10)
          have Y := Lib.hid (Y.out.ext hb10)
          have R := Lib.hid (R.out.ext hb10)
          have S := Lib.hid (S.out.ext hb10)
          have E := ext_trans E hb10
          clear hb10
          rw [Hkt.out]
          go_wp2_with fail
          refine hK.out _ _ ?_ (fun hHeld => ?_)
          · exact ⟨A0.cell0 rfl, A0.cell0 rfl, A2.cell0 rfl, A2.cell0 rfl, A4.cell0 rfl, A4.cell0 rfl⟩
          clear hK K'
          try simp only [Act.put, List.setIfInBounds_toArray, List.set_cons_zero, List.set_cons_succ]
          refine wpAnyH_ready (rs := [8]) (by kernel_rfl) (by simp) ?_
          refine AllReadyH.cons rfl (fun K' hK => ?_) AllReadyH.nil
          refine if_yes (by rfl) ?_
          try simp only [Act.put, List.getElem_toArray, List.getElem_cons_zero, List.getElem_cons_succ, List.setIfInBounds_toArray, List.set_cons_zero, List.set_cons_succ]
          go_simp
          refine (impl_KeepsOk p _ _ l _ (V.out.base (Nat.zero_le _)) R.out).mono ?_
          rintro e w11 ⟨rfl, hb11⟩
          have A0 := A0.ext hb11
          have A1 := A1.ext hb11
          have A2 := A2.ext hb11
          have A3 := A3.ext hb11
          have A4 := A4.ext hb11
          have V := Lib.hid (V.out.ext hb11)
          have X := Lib.hid (X.out.ext hb11)
          have Y := Lib.hid (Y.out.ext hb11)
          have R := Lib.hid (R.out.ext hb11)
          have S := Lib.hid (S.out.ext hb11)
          have E := ext_trans E hb11
          clear hb11
          rw [← hkp.out]
          go_wp2_with fail
          refine hK.out _ _ ?_ (fun hHeld => ?_)
          · exact ⟨A0.cell0 rfl, A0.cell0 rfl, A2.cell0 rfl, A2.cell0 rfl, A4.cell0 rfl, A4.cell0 rfl⟩
          clear hK K'
          try simp only [Act.put, List.setIfInBounds_toArray, List.set_cons_zero, List.set_cons_succ]
          refine wpAnyH_take (i := 9) (v := ?_) rfl (by kernel_rfl) (by kernel_rfl) (by kernel_rfl) (fun _ _ _ h => h) (Or.inl ⟨by rfl, fun w' hS' => ?_⟩) (by assumption) ?_
          rotate_left
          · (try dsimp only at hS'); go_simp; (try rw [if_pos (by omega)]); try with_reducible rfl
          try simp only [Act.put, List.getElem_toArray, List.getElem_cons_zero, List.getElem_cons_succ, List.setIfInBounds_toArray, List.set_cons_zero, List.set_cons_succ]
          refine wpAnyH_take (i := 10) (v := undef) rfl (by kernel_rfl) (by kernel_rfl) (by kernel_rfl) (fun _ _ _ h => h) (Or.inr ⟨by rfl, rfl⟩) (by assumption) ?_
          try simp only [Act.put, List.getElem_toArray, List.getElem_cons_zero, List.getElem_cons_succ, List.setIfInBounds_toArray, List.set_cons_zero, List.set_cons_succ]
          refine wpAnyH_take (i := 11) (v := undef) rfl (by kernel_rfl) (by kernel_rfl) (by kernel_rfl) (fun _ _ _ h => h) (Or.inr ⟨by rfl, rfl⟩) (by assumption) ?_
          try simp only [Act.put, List.getElem_toArray, List.getElem_cons_zero, List.getElem_cons_succ, List.setIfInBounds_toArray, List.set_cons_zero, List.set_cons_succ]
          refine wpAnyH_take (i := 12) (v := undef) rfl (by kernel_rfl) (by kernel_rfl) (by kernel_rfl) (fun _ _ _ h => h) (Or.inr ⟨by rfl, rfl⟩) (by assumption) ?_
          try simp only [Act.put, List.getElem_toArray, List.getElem_cons_zero, List.getElem_cons_succ, List.setIfInBounds_toArray, List.set_cons_zero, List.set_cons_succ]
          refine wpAnyH_take (i := 13) (v := ?_) rfl (by kernel_rfl) (by kernel_rfl) (by kernel_rfl) (fun _ _ _ h => h) (Or.inl ⟨by rfl, fun w' hS' => ?_⟩) (by assumption) ?_
          rotate_left
          · (try dsimp only at hS'); go_simp; (try rw [if_pos (by omega)]); try with_reducible rfl
          try simp only [Act.put, List.getElem_toArray, List.getElem_cons_zero, List.getElem_cons_succ, List.setIfInBounds_toArray, List.set_cons_zero, List.set_cons_succ]
          refine wpAnyH_take (i := 14) (v := ?_) rfl (by kernel_rfl) (by kernel_rfl) (by kernel_rfl) (fun _ _ _ h => h) (Or.inl ⟨by rfl, fun w' hS' => ?_⟩) (by assumption) ?_
          rotate_left
          · (try dsimp only at hS'); go_simp; (try rw [if_pos (by omega)]); try with_reducible rfl
          try simp only [Act.put, List.getElem_toArray, List.getElem_cons_zero, List.getElem_cons_succ, List.setIfInBounds_toArray, List.set_cons_zero, List.set_cons_succ]
          refine wpAnyH_take (i := 15) (v := ?_) rfl (by kernel_rfl) (by kernel_rfl) (by kernel_rfl) (fun _ _ _ h => h) (Or.inl ⟨by rfl, fun w' hS' => ?_⟩) (by assumption) ?_
          rotate_left
          · (try dsimp only at hS'); go_simp; (try rw [if_pos (by omega)]); try with_reducible rfl
          try simp only [Act.put, List.getElem_toArray, List.getElem_cons_zero, List.getElem_cons_succ, List.setIfInBounds_toArray, List.set_cons_zero, List.set_cons_succ]
          refine wpAnyH_ready (rs := [16]) (by kernel_rfl) (by simp) ?_
          refine AllReadyH.cons rfl (fun K' hK => ?_) AllReadyH.nil
          refine if_yes (by rfl) ?_
          try simp only [Act.put, List.getElem_toArray, List.getElem_cons_zero, List.getElem_cons_succ, List.setIfInBounds_toArray, List.set_cons_zero, List.set_cons_succ]
          go_simp
          refine hK.out _ _ ?_ (fun hHeld => ?_)
          · exact ⟨A0.cell0 rfl, A0.cell0 rfl, A2.cell0 rfl, A2.cell0 rfl, A4.cell0 rfl, A4.cell0 rfl⟩
          clear hK K'
          try simp only [Act.put, List.setIfInBounds_toArray, List.set_cons_zero, List.set_cons_succ]
          refine wpAnyH_done (by kernel_rfl) ?_ _
          try simp only [Act.put, List.setIfInBounds_toArray, List.set_cons_zero, List.set_cons_succ]
          go_wp2_with fail
          go_ret
          exact ⟨rfl, E⟩
        · cases ka
          · have Hkt := Lib.hid (show keeps T l = false by rw [Hk2.out]; rfl)
            go_region_held3 (fun w' => w'.cell? ⟨w1.heap.size, 0, none⟩ = some (Value.int .i64 p.pts) ∧ w'.cell? ⟨w1.heap.size, 1, none⟩ = some (Value.slice av p.bs.length cv) ∧ w'.cell? ⟨w3.heap.size, 0, none⟩ = some (Value.int .i64 T.pts) ∧ w'.cell? ⟨w3.heap.size, 1, none⟩ = some (Value.slice ax T.bs.length cx) ∧ w'.cell? ⟨(wr.heap.size + 1), 0, none⟩ = some (Value.int .i64 p.pts) ∧ w'.cell? ⟨(wr.heap.size + 1), 1, none⟩ = some (Value.slice (some ⟨wr.heap.size, 0, none⟩) 1 1))
              (first | exact ⟨A0.cell0 rfl, A0.cell0 rfl, A2.cell0 rfl, A2.cell0 rfl, A4.cell0 rfl, A4.cell0 rfl⟩ | exact ⟨A0a8.cell0 rfl, A0a8.cell0 rfl, A2a8.cell0 rfl, A2a8.cell0 rfl, A4a8.cell0 rfl, A4a8.cell0 rfl⟩ | exact ⟨A0b8.cell0 rfl, A0b8.cell0 rfl, A2b8.cell0 rfl, A2b8.cell0 rfl, A4b8.cell0 rfl, A4b8.cell0 rfl⟩ | exact ⟨A0c8.cell0 rfl, A0c8.cell0 rfl, A2c8.cell0 rfl, A2c8.cell0 rfl, A4c8.cell0 rfl, A4c8.cell0 rfl⟩ | exact ⟨A0d8.cell0 rfl, A0d8.cell0 rfl, A2d8.cell0 rfl, A2d8.cell0 rfl, A4d8.cell0 rfl, A4d8.cell0 rfl⟩)
              (first | (go_at_call 21
                        refine (impl_PlanOk T _ _ ((X.out.ext (ext_drew (ext_refl wm))).base (Nat.zero_le _))).mono ?_
                        rintro e wa8 ⟨rfl, hba8⟩
                        rw [show T.ok = true by rw [HT.out]; exact Hok.out]
                        have A0a8 := A0.ext (ext_trans (ext_drew (ext_refl wm)) hba8)
                        have A2a8 := A2.ext (ext_trans (ext_drew (ext_refl wm)) hba8)
                        have A4a8 := A4.ext (ext_trans (ext_drew (ext_refl wm)) hba8)
                        have Ha8 := ext_trans (ext_drew (ext_refl wm)) hba8)
                     | (go_at_call_of 31 (Value.slice ax T.bs.length cx)
                        refine (impl_KeepsOk T _ _ l _ ((X.out.ext Ha8).base (Nat.zero_le _)) (R.out.ext Ha8)).mono ?_
                        rintro e wb8 ⟨rfl, hbb8⟩
                        rw [Hkt.out]
                        have A0b8 := A0.ext (ext_trans Ha8 hbb8)
                        have A2b8 := A2.ext (ext_trans Ha8 hbb8)
                        have A4b8 := A4.ext (ext_trans Ha8 hbb8)
                        have Hb8 := ext_trans Ha8 hbb8)
                     | (go_at_call_of 31 (Value.slice av p.bs.length cv)
                        refine (impl_KeepsOk p _ _ l _ ((V.out.ext Hb8).base (Nat.zero_le _)) (R.out.ext Hb8)).mono ?_
                        rintro e wc8 ⟨rfl, hbc8⟩
                        rw [← hkp.out]
                        have A0c8 := A0.ext (ext_trans Hb8 hbc8)
                        have A2c8 := A2.ext (ext_trans Hb8 hbc8)
                        have A4c8 := A4.ext (ext_trans Hb8 hbc8)
                        have Hc8 := ext_trans Hb8 hbc8)
                     | (go_at_call_of 31 (Value.slice (some ⟨wr.heap.size, 0, none⟩) 1 1)
                        refine (impl_KeepsOk ⟨p.pts, [b]⟩ _ _ l _ (S.out.ext Hc8) (R.out.ext Hc8)).mono ?_
                        rintro e wd8 ⟨rfl, hbd8⟩
                        rw [← hka.out]
                        have A0d8 := A0.ext (ext_trans Hc8 hbd8)
                        have A2d8 := A2.ext (ext_trans Hc8 hbd8)
                        have A4d8 := A4.ext (ext_trans Hc8 hbd8)
                        have Hd8 := ext_trans Hc8 hbd8))
            have A0 := A0.ext Hd8
            have A1 := A1.ext Hd8
            have A2 := A2.ext Hd8
            have A3 := A3.ext Hd8
            have A4 := A4.ext Hd8
            have V := Lib.hid (V.out.ext Hd8)
            have X := Lib.hid (X.out.ext Hd8)
            have Y := Lib.hid (Y.out.ext Hd8)
            have R := Lib.hid (R.out.ext Hd8)
            have S := Lib.hid (S.out.ext Hd8)
            have E := ext_trans E Hd8
            clear A0a8 A2a8 A4a8 A0b8 A2b8 A4b8 A0c8 A2c8 A4c8 A0d8 A2d8 A4d8 hba8 hbb8 hbc8 hbd8 Ha8 Hb8 Hc8 Hd8
            go_wp2_with fail
            go_ret
            exact ⟨rfl, E⟩
          · have Hkt := Lib.hid (show keeps T l = true by rw [Hk2.out]; rfl)
            go_region_held3 (fun w' => w'.cell? ⟨w1.heap.size, 0, none⟩ = some (Value.int .i64 p.pts) ∧ w'.cell? ⟨w1.heap.size, 1, none⟩ = some (Value.slice av p.bs.length cv) ∧ w'.cell? ⟨w3.heap.size, 0, none⟩ = some (Value.int .i64 T.pts) ∧ w'.cell? ⟨w3.heap.size, 1, none⟩ = some (Value.slice ax T.bs.length cx) ∧ w'.cell? ⟨(wr.heap.size + 1), 0, none⟩ = some (Value.int .i64 p.pts) ∧ w'.cell? ⟨(wr.heap.size + 1), 1, none⟩ = some (Value.slice (some ⟨wr.heap.size, 0, none⟩) 1 1))
              (first | exact ⟨A0.cell0 rfl, A0.cell0 rfl, A2.cell0 rfl, A2.cell0 rfl, A4.cell0 rfl, A4.cell0 rfl⟩ | exact ⟨A0a8.cell0 rfl, A0a8.cell0 rfl, A2a8.cell0 rfl, A2a8.cell0 rfl, A4a8.cell0 rfl, A4a8.cell0 rfl⟩ | exact ⟨A0b8.cell0 rfl, A0b8.cell0 rfl, A2b8.cell0 rfl, A2b8.cell0 rfl, A4b8.cell0 rfl, A4b8.cell0 rfl⟩ | exact ⟨A0c8.cell0 rfl, A0c8.cell0 rfl, A2c8.cell0 rfl, A2c8.cell0 rfl, A4c8.cell0 rfl, A4c8.cell0 rfl⟩ | exact ⟨A0d8.cell0 rfl, A0d8.cell0 rfl, A2d8.cell0 rfl, A2d8.cell0 rfl, A4d8.cell0 rfl, A4d8.cell0 rfl⟩)
              (first | (go_at_call 21
                        refine (impl_PlanOk T _ _ ((X.out.ext (ext_drew (ext_refl wm))).base (Nat.zero_le _))).mono ?_
                        rintro e wa8 ⟨rfl, hba8⟩
                        rw [show T.ok = true by rw [HT.out]; exact Hok.out]
                        have A0a8 := A0.ext (ext_trans (ext_drew (ext_refl wm)) hba8)
                        have A2a8 := A2.ext (ext_trans (ext_drew (ext_refl wm)) hba8)
                        have A4a8 := A4.ext (ext_trans (ext_drew (ext_refl wm)) hba8)
                        have Ha8 := ext_trans (ext_drew (ext_refl wm)) hba8)
                     | (go_at_call_of 31 (Value.slice ax T.bs.length cx)
                        refine (impl_KeepsOk T _ _ l _ ((X.out.ext Ha8).base (Nat.zero_le _)) (R.out.ext Ha8)).mono ?_
                        rintro e wb8 ⟨rfl, hbb8⟩
                        rw [Hkt.out]
                        have A0b8 := A0.ext (ext_trans Ha8 hbb8)
                        have A2b8 := A2.ext (ext_trans Ha8 hbb8)
                        have A4b8 := A4.ext (ext_trans Ha8 hbb8)
                        have Hb8 := ext_trans Ha8 hbb8)
                     | (go_at_call_of 31 (Value.slice av p.bs.length cv)
                        refine (impl_KeepsOk p _ _ l _ ((V.out.ext Hb8).base (Nat.zero_le _)) (R.out.ext Hb8)).mono ?_
                        rintro e wc8 ⟨rfl, hbc8⟩
                        rw [← hkp.out]
                        have A0c8 := A0.ext (ext_trans Hb8 hbc8)
                        have A2c8 := A2.ext (ext_trans Hb8 hbc8)
                        have A4c8 := A4.ext (ext_trans Hb8 hbc8)
                        have Hc8 := ext_trans Hb8 hbc8)
                     | (go_at_call_of 31 (Value.slice (some ⟨wr.heap.size, 0, none⟩) 1 1)
                        refine (impl_KeepsOk ⟨p.pts, [b]⟩ _ _ l _ (S.out.ext Hc8) (R.out.ext Hc8)).mono ?_
                        rintro e wd8 ⟨rfl, hbd8⟩
                        rw [← hka.out]
                        have A0d8 := A0.ext (ext_trans Hc8 hbd8)
                        have A2d8 := A2.ext (ext_trans Hc8 hbd8)
                        have A4d8 := A4.ext (ext_trans Hc8 hbd8)
                        have Hd8 := ext_trans Hc8 hbd8))
            have A0 := A0.ext Hd8
            have A1 := A1.ext Hd8
            have A2 := A2.ext Hd8
            have A3 := A3.ext Hd8
            have A4 := A4.ext Hd8
            have V := Lib.hid (V.out.ext Hd8)
            have X := Lib.hid (X.out.ext Hd8)
            have Y := Lib.hid (Y.out.ext Hd8)
            have R := Lib.hid (R.out.ext Hd8)
            have S := Lib.hid (S.out.ext Hd8)
            have E := ext_trans E Hd8
            clear A0a8 A2a8 A4a8 A0b8 A2b8 A4b8 A0c8 A2c8 A4c8 A0d8 A2d8 A4d8 hba8 hbb8 hbc8 hbd8 Ha8 Hb8 Hc8 Hd8
            go_wp2_with fail
            go_ret
            exact ⟨rfl, E⟩
end Go.Proofs.Ytcjdodjjdchnaaa
