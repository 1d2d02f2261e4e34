/- The walk of FnDeskNew: it returns true, whatever code came in. Condition: the bytes of the code can be read. -/
import Derived.Test.YtcjdodjjdchnaaaDrawn
import Derived.Test.YtcjdodjjdchnaaaDesk
namespace Go.Proofs.Ytcjdodjjdchnaaa
open Go.RowKit
set_option linter.unusedVariables false
set_option linter.unusedSimpArgs false
set_option maxRecDepth 100000 in
set_option maxHeartbeats 8000000 in
theorem walk_DeskNew (a : Option Addr) (n cap : Nat) (w : World) (h : Byt w w.heap.size a n cap) :
    Calls Try.prog 4 #[.slice a n cap] w fun e w' => e = .returned (.bool true) ∧ Below w.heap.size w w' := by
  have H := Lib.hid h
  obtain ⟨hncap, hcap, -⟩ := id h
  clear h
  by_cases hbig : 1048576 < n
  · go_enter Try.func4, Try.ntmps4
    go_wp2_with fail
    go_ret
    exact ⟨rfl, ext_refl _⟩
  go_enter Try.func4, Try.ntmps4
  go_wp2_with fail
  refine (spec_DrawDeskNew a n cap w H.out).mono ?_
  rintro e w1 ⟨bs, p, rfl, hV, hl, h0, h7, hb1⟩
  have E := hb1
  clear hb1
  obtain ⟨av, cv, rfl, -⟩ := hV.open
  have V := Lib.hid hV
  clear hV
  go_wp2_with fail
  obtain ⟨w2, hw2, A0, hs2, hb2⟩ := one_box w1 #[.int .i64 p.pts, .slice av p.bs.length cv] 25
  rw [← hw2.out]
  have V := Lib.hid (V.out.ext hb2)
  have E := ext_trans E hb2
  clear hb2
  refine (impl_DeskNew p _ _ (V.out.base (Nat.zero_le _)) (by omega)).mono ?_
  rintro e w3 ⟨xs, rfl, hX, hb3⟩
  have A0 := A0.ext hb3
  have V := Lib.hid (V.out.ext hb3)
  have E := ext_trans E hb3
  clear hb3
  obtain ⟨ax, cx, rfl, -⟩ := hX.open
  have X := Lib.hid hX
  clear hX
  obtain ⟨T, hT⟩ : ∃ T : Pl, Hid (T = p.desk) := ⟨_, rfl⟩
  rw [← hT.out] at X ⊢
  obtain ⟨rcA0, rzA0⟩ := (A0).rules; have rlA0 := (A0).lt
  obtain ⟨rcA0, rzA0⟩ := (A0).rules; have rlA0 := (A0).lt
  go_upto_region 5 with fail
  obtain ⟨w4, hw4, A1, hs4, hb4⟩ := one_box w3 #[.int .i64 T.pts, .slice ax T.bs.length cx, .slice none 0 0] 34
  rw [← hw4.out]
  have A0 := A0.ext hb4
  have V := Lib.hid (V.out.ext hb4)
  have X := Lib.hid (X.out.ext hb4)
  have E := ext_trans E hb4
  clear hb4
  obtain ⟨rcA0, rzA0⟩ := (A0).rules; have rlA0 := (A0).lt
  obtain ⟨rcA1, rzA1⟩ := (A1).rules; have rlA1 := (A1).lt
  go_wp2_with fail
  refine (spec_DeskNew p _ _ (V.out.base (Nat.zero_le _)) (by omega)).mono ?_
  rintro e w5 ⟨ys, rfl, hY, hb5⟩
  have A0 := A0.ext hb5
  have A1 := A1.ext hb5
  have V := Lib.hid (V.out.ext hb5)
  have X := Lib.hid (X.out.ext hb5)
  have E := ext_trans E hb5
  clear hb5
  obtain ⟨ay, cy, rfl, -⟩ := hY.open
  have Y := Lib.hid hY
  clear hY
  rw [← hT.out] at Y ⊢
  obtain ⟨rcA0, rzA0⟩ := (A0).rules; have rlA0 := (A0).lt
  obtain ⟨rcA1, rzA1⟩ := (A1).rules; have rlA1 := (A1).lt
  obtain ⟨rcA0, rzA0⟩ := (A0).rules; have rlA0 := (A0).lt
  obtain ⟨rcA1, rzA1⟩ := (A1).rules; have rlA1 := (A1).lt
  go_upto_region 6 with fail
  obtain ⟨w6, hw6, A2, hs6, hb6⟩ := one_box w5 #[.int .i64 T.pts, .slice ay T.bs.length cy, .slice none 0 0] 34
  rw [← hw6.out]
  have A0 := A0.ext hb6
  have A1 := A1.ext hb6
  have V := Lib.hid (V.out.ext hb6)
  have X := Lib.hid (X.out.ext hb6)
  have Y := Lib.hid (Y.out.ext hb6)
  have E := ext_trans E hb6
  clear hb6
  obtain ⟨rcA0, rzA0⟩ := (A0).rules; have rlA0 := (A0).lt
  obtain ⟨rcA1, rzA1⟩ := (A1).rules; have rlA1 := (A1).lt
  obtain ⟨rcA2, rzA2⟩ := (A2).rules; have rlA2 := (A2).lt
  go_wp2_with fail
  refine (laws_sameDesk T T _ _ _ (X.out.base (Nat.zero_le _)) (Y.out.base (Nat.zero_le _))).mono ?_
  rintro e w7 ⟨rfl, hb7⟩
  have A0 := A0.ext hb7
  have A1 := A1.ext hb7
  have A2 := A2.ext hb7
  have V := Lib.hid (V.out.ext hb7)
  have X := Lib.hid (X.out.ext hb7)
  have Y := Lib.hid (Y.out.ext hb7)
  have E := ext_trans E hb7
  clear hb7
  rw [decide_eq_true rfl]
  obtain ⟨rcA0, rzA0⟩ := (A0).rules; have rlA0 := (A0).lt
  obtain ⟨rcA1, rzA1⟩ := (A1).rules; have rlA1 := (A1).lt
  obtain ⟨rcA2, rzA2⟩ := (A2).rules; have rlA2 := (A2).lt
  cases hok : p.ok
  · have HT := Lib.hid (show T = Pl.zero by rw [hT.out]; exact if_neg (by simp [hok]))
    have Hok := Lib.hid hok
    go_wp2_with fail
    refine (laws_noDesk T _ _ (X.out.base (Nat.zero_le _))).mono ?_
    rintro e w8 ⟨rfl, hb8⟩
    have A0 := A0.ext hb8
    have A1 := A1.ext hb8
    have A2 := A2.ext hb8
    have V := Lib.hid (V.out.ext hb8)
    have X := Lib.hid (X.out.ext hb8)
    have Y := Lib.hid (Y.out.ext hb8)
    have E := ext_trans E hb8
    clear hb8
    rw [decide_eq_true HT.out]
    obtain ⟨rcA0, rzA0⟩ := (A0).rules; have rlA0 := (A0).lt
    obtain ⟨rcA1, rzA1⟩ := (A1).rules; have rlA1 := (A1).lt
    obtain ⟨rcA2, rzA2⟩ := (A2).rules; have rlA2 := (A2).lt
    go_wp2_with fail
    refine (impl_PlanOk p _ _ (V.out.base (Nat.zero_le _))).mono ?_
    rintro e w9 ⟨rfl, hb9⟩
    have A0 := A0.ext hb9
    have A1 := A1.ext hb9
    have A2 := A2.ext hb9
    have V := Lib.hid (V.out.ext hb9)
    have X := Lib.hid (X.out.ext hb9)
    have Y := Lib.hid (Y.out.ext hb9)
    have E := ext_trans E hb9
    clear hb9
    rw [Hok.out]
    obtain ⟨rcA0, rzA0⟩ := (A0).rules; have rlA0 := (A0).lt
    obtain ⟨rcA1, rzA1⟩ := (A1).rules; have rlA1 := (A1).lt
    obtain ⟨rcA2, rzA2⟩ := (A2).rules; have rlA2 := (A2).lt
    go_wp2_with fail
    refine (laws_alive _).mono ?_
    rintro e w10 ⟨rfl, hb10⟩
    have A0 := A0.ext hb10
    have A1 := A1.ext hb10
    have A2 := A2.ext hb10
    have V := Lib.hid (V.out.ext hb10)
    have X := Lib.hid (X.out.ext hb10)
    have Y := Lib.hid (Y.out.ext hb10)
    have E := ext_trans E hb10
    clear hb10
    go_wp2_with fail
    go_ret
    exact ⟨rfl, E⟩
  · have HT := Lib.hid (show T = p by rw [hT.out]; exact if_pos hok)
    have Hok := Lib.hid hok
    go_wp2_with fail
    refine (impl_DeskOk0 T _ _ (X.out.base (Nat.zero_le _))).mono ?_
    rintro e w8 ⟨rfl, hb8⟩
    have A0 := A0.ext hb8
    have A1 := A1.ext hb8
    have A2 := A2.ext hb8
    have V := Lib.hid (V.out.ext hb8)
    have X := Lib.hid (X.out.ext hb8)
    have Y := Lib.hid (Y.out.ext hb8)
    have E := ext_trans E hb8
    clear hb8
    rw [show T.ok = true by rw [HT.out]; exact Hok.out]
    obtain ⟨rcA0, rzA0⟩ := (A0).rules; have rlA0 := (A0).lt
    obtain ⟨rcA1, rzA1⟩ := (A1).rules; have rlA1 := (A1).lt
    obtain ⟨rcA2, rzA2⟩ := (A2).rules; have rlA2 := (A2).lt
    go_wp2_with fail
    refine (laws_samePlan T p _ _ _ (X.out.base (Nat.zero_le _)) (V.out.base (Nat.zero_le _))).mono ?_
    rintro e w9 ⟨rfl, hb9⟩
    have A0 := A0.ext hb9
    have A1 := A1.ext hb9
    have A2 := A2.ext hb9
    have V := Lib.hid (V.out.ext hb9)
    have X := Lib.hid (X.out.ext hb9)
    have Y := Lib.hid (Y.out.ext hb9)
    have E := ext_trans E hb9
    clear hb9
    rw [decide_eq_true HT.out]
    obtain ⟨rcA0, rzA0⟩ := (A0).rules; have rlA0 := (A0).lt
    obtain ⟨rcA1, rzA1⟩ := (A1).rules; have rlA1 := (A1).lt
    obtain ⟨rcA2, rzA2⟩ := (A2).rules; have rlA2 := (A2).lt
    go_wp2_with fail
    go_ret
    exact ⟨rfl, E⟩
end Go.Proofs.Ytcjdodjjdchnaaa
