/- The walk of FnPlanOfTable: it returns true, whatever code came in. Condition: the bytes of the code can be read. -/
import Derived.Test.YtpccfkbpnfbdaaaDrawTabl
import Derived.Test.YtpccfkbpnfbdaaaPlanTabS
import Derived.Test.YtpccfkbpnfbdaaaTablMath
import Derived.Test.YtpccfkbpnfbdaaaSame
import Derived.Test.YtpccfkbpnfbdaaaLawInts
namespace Go.Proofs.Ytpccfkbpnfbdaaa
open Go.RowKit
set_option linter.unusedVariables false
set_option linter.unusedSimpArgs false
set_option maxRecDepth 100000 in
set_option maxHeartbeats 8000000 in
theorem walk_PlanOfTable (a : Option Addr) (n cap : Nat) (w : World) (h : Byt w w.heap.size a n cap) :
    Calls Try.prog 6 #[.slice a n cap] w fun e w' => e = .returned (.bool true) ∧ Below w.heap.size w w' := by
  have H := Lib.hid h
  obtain ⟨hncap, hcap, -⟩ := id h
  clear h
  by_cases hbig : 1048576 < n
  · go_enter Try.func6, Try.ntmps6
    go_wp2_with fail
    go_ret
    exact ⟨rfl, ext_refl _⟩
  go_enter Try.func6, Try.ntmps6
  go_wp2_with fail
  refine (spec_DrawPlanOfTable a n cap w H.out).mono ?_
  rintro e w1 ⟨bs, p, rfl, hV, hl, h0, h7, hb1⟩
  have E := hb1
  clear hb1
  obtain ⟨av, cv, rfl, -⟩ := hV.open
  have V := Lib.hid hV
  clear hV
  go_wp2_with fail
  obtain ⟨w2, hw2, A3, hs2, hb2⟩ := one_box w1 #[.int .i64 p.pts, .slice av p.bs.length cv] 29
  rw [← hw2.out]
  have V := Lib.hid (V.out.ext hb2)
  have E := ext_trans E hb2
  clear hb2
  obtain ⟨rcA3, rzA3⟩ := (A3).rules; have rlA3 := (A3).lt
  go_wp2_with fail
  obtain ⟨P, hP⟩ : ∃ P : Pl, Hid (P = p.tbl) := ⟨_, rfl⟩
  obtain ⟨ok, hok⟩ : ∃ b : Bool, Hid (b = p.tblOk) := ⟨_, rfl⟩
  refine (impl_PlanOfTable p _ _ (V.out.base (Nat.zero_le _))).mono ?_
  rintro e w3 ⟨vX, rfl, hX, hb3⟩
  clear rcA3 rzA3 rlA3
  have A3 := A3.ext hb3
  have V := Lib.hid (V.out.ext hb3)
  have E := ext_trans E hb3
  clear hb3
  have X := Lib.hid hX
  clear hX
  rw [← hP.out] at X ⊢
  rw [← hok.out]
  obtain ⟨aX, cX, rfl, -⟩ := X.out.open
  obtain ⟨rcA3, rzA3⟩ := (A3).rules; have rlA3 := (A3).lt
  go_wp2_with fail
  obtain ⟨w4, hw4, A4, hs4, hb4⟩ := one_box w3 #[.int .i64 P.pts, .slice aX P.bs.length cX] 29
  rw [← hw4.out]
  clear rcA3 rzA3 rlA3
  have A3 := A3.ext hb4
  have V := Lib.hid (V.out.ext hb4)
  have X := Lib.hid (X.out.ext hb4)
  have E := ext_trans E hb4
  clear hb4
  obtain ⟨rcA3, rzA3⟩ := (A3).rules; have rlA3 := (A3).lt
  obtain ⟨rcA4, rzA4⟩ := (A4).rules; have rlA4 := (A4).lt
  go_wp2_with fail
  refine (spec_PlanOfTable p _ _ (V.out.base (Nat.zero_le _))).mono ?_
  rintro e w5 ⟨vY, rfl, hY, hb5⟩
  clear rcA3 rzA3 rlA3 rcA4 rzA4 rlA4
  have A3 := A3.ext hb5
  have A4 := A4.ext hb5
  have V := Lib.hid (V.out.ext hb5)
  have X := Lib.hid (X.out.ext hb5)
  have E := ext_trans E hb5
  clear hb5
  have Y := Lib.hid hY
  clear hY
  rw [← hP.out] at Y ⊢
  rw [← hok.out]
  obtain ⟨aY, cY, rfl, -⟩ := Y.out.open
  obtain ⟨rcA3, rzA3⟩ := (A3).rules; have rlA3 := (A3).lt
  obtain ⟨rcA4, rzA4⟩ := (A4).rules; have rlA4 := (A4).lt
  go_wp2_with fail
  obtain ⟨w6, hw6, A6, hs6, hb6⟩ := one_box w5 #[.int .i64 P.pts, .slice aY P.bs.length cY] 29
  rw [← hw6.out]
  clear rcA3 rzA3 rlA3 rcA4 rzA4 rlA4
  have A3 := A3.ext hb6
  have A4 := A4.ext hb6
  have V := Lib.hid (V.out.ext hb6)
  have X := Lib.hid (X.out.ext hb6)
  have Y := Lib.hid (Y.out.ext hb6)
  have E := ext_trans E hb6
  clear hb6
  obtain ⟨rcA3, rzA3⟩ := (A3).rules; have rlA3 := (A3).lt
  obtain ⟨rcA4, rzA4⟩ := (A4).rules; have rlA4 := (A4).lt
  obtain ⟨rcA6, rzA6⟩ := (A6).rules; have rlA6 := (A6).lt
  go_wp2_with fail
  refine (laws_samePlan P P _ _ _ (X.out.base (Nat.zero_le _)) (Y.out.base (Nat.zero_le _))).mono ?_
  rintro e w7 ⟨rfl, hb7⟩
  clear rcA3 rzA3 rlA3 rcA4 rzA4 rlA4 rcA6 rzA6 rlA6
  have A3 := A3.ext hb7
  have A4 := A4.ext hb7
  have A6 := A6.ext hb7
  have V := Lib.hid (V.out.ext hb7)
  have X := Lib.hid (X.out.ext hb7)
  have Y := Lib.hid (Y.out.ext hb7)
  have E := ext_trans E hb7
  clear hb7
  rw [decide_eq_true rfl]
  obtain ⟨rcA3, rzA3⟩ := (A3).rules; have rlA3 := (A3).lt
  obtain ⟨rcA4, rzA4⟩ := (A4).rules; have rlA4 := (A4).lt
  obtain ⟨rcA6, rzA6⟩ := (A6).rules; have rlA6 := (A6).lt
  cases hokc : ok
  · have HT := Lib.hid (show P = Pl.zero by rw [hP.out]; exact tbl_no (by rw [← hok.out]; exact hokc))
    clear hokc
    go_wp2_with fail
    refine (laws_samePlan P Pl.zero _ (.slice none 0 0) _ (X.out.base (Nat.zero_le _)) (Bds.nil _ _)).mono ?_
    rintro e w8 ⟨rfl, hb8⟩
    clear rcA3 rzA3 rlA3 rcA4 rzA4 rlA4 rcA6 rzA6 rlA6
    have A3 := A3.ext hb8
    have A4 := A4.ext hb8
    have A6 := A6.ext hb8
    have V := Lib.hid (V.out.ext hb8)
    have X := Lib.hid (X.out.ext hb8)
    have Y := Lib.hid (Y.out.ext hb8)
    have E := ext_trans E hb8
    clear hb8
    rw [decide_eq_true HT.out]
    obtain ⟨rcA3, rzA3⟩ := (A3).rules; have rlA3 := (A3).lt
    obtain ⟨rcA4, rzA4⟩ := (A4).rules; have rlA4 := (A4).lt
    obtain ⟨rcA6, rzA6⟩ := (A6).rules; have rlA6 := (A6).lt
    go_wp2_with fail
    refine (laws_alive _).mono ?_
    rintro e w9 ⟨rfl, hb9⟩
    clear rcA3 rzA3 rlA3 rcA4 rzA4 rlA4 rcA6 rzA6 rlA6
    have A3 := A3.ext hb9
    have A4 := A4.ext hb9
    have A6 := A6.ext hb9
    have V := Lib.hid (V.out.ext hb9)
    have X := Lib.hid (X.out.ext hb9)
    have Y := Lib.hid (Y.out.ext hb9)
    have E := ext_trans E hb9
    clear hb9
    go_wp2_with fail
    go_ret
    exact ⟨rfl, E⟩
  · have Hok : Hid (p.tblOk = true) := by rw [← hok.out]; exact Lib.hid hokc
    clear hokc
    have hlenP : P.bs.length ≤ 16 := by rw [hP.out]; exact (plok_in (tbl_clo Hok.out).1).2.2.2.1
    have H1 : Hid (P.alike p = true) := by rw [hP.out]; exact Lib.hid (tbl_alike Hok.out)
    have H2 : Hid (P.tblOk = true ∧ P.tbl = P) := by rw [hP.out]; exact Lib.hid (tbl_again Hok.out)
    have H3 : Hid (∀ k : Nat, k < P.bs.length → P.tight (k : Int) = true) := fun k hk => by rw [hP.out] at hk ⊢; exact tbl_tight Hok.out hk
    go_wp2_with fail
    clear rcA3 rzA3 rlA3 rcA4 rzA4 rlA4 rcA6 rzA6 rlA6
    go_loopg [8] P.bs.length (fun m kk wr => ∃ (k : Nat), k ≤ P.bs.length ∧ m = P.bs.length - k ∧ kk = .int .i64 k ∧ Below w7.heap.size w7 wr)
    case atStart => exact ⟨0, by omega, by omega, rfl, ext_refl _⟩
    case round =>
      obtain ⟨k, hk, hgk, rfl, hb⟩ := hrel
      have Hk := Lib.hid hgk
      clear hgk
      have A3 := A3.ext hb
      have A4 := A4.ext hb
      have A6 := A6.ext hb
      have V := Lib.hid (V.out.ext hb)
      have X := Lib.hid (X.out.ext hb)
      have Y := Lib.hid (Y.out.ext hb)
      have E := ext_trans E hb
      obtain ⟨rcA3, rzA3⟩ := (A3).rules; have rlA3 := (A3).lt
      obtain ⟨rcA4, rzA4⟩ := (A4).rules; have rlA4 := (A4).lt
      obtain ⟨rcA6, rzA6⟩ := (A6).rules; have rlA6 := (A6).lt
      by_cases hlk : k < P.bs.length
      · have Htk := Lib.hid (H3.out k hlk)
        go_wp2_with fail
        refine (impl_TightOk P (k : Int) _ _ (X.out.base (Nat.zero_le _)) (by omega)).mono ?_
        rintro e w8 ⟨rfl, hb8⟩
        clear rcA3 rzA3 rlA3 rcA4 rzA4 rlA4 rcA6 rzA6 rlA6
        have A3 := A3.ext hb8
        have A4 := A4.ext hb8
        have A6 := A6.ext hb8
        have V := Lib.hid (V.out.ext hb8)
        have X := Lib.hid (X.out.ext hb8)
        have Y := Lib.hid (Y.out.ext hb8)
        have E := ext_trans E hb8
        have hbr := ext_trans hb hb8
        rw [Htk.out]
        go_wp2_with fail
        go_roundg (P.bs.length - (k+1))
        case rel => exact ⟨k+1, by omega, rfl, by go_num, hbr⟩
        case measure => have := Hk.out; omega
      · have hkn : k = P.bs.length := by omega
        have Hkn := Lib.hid hkn
        clear hkn
        go_wp2_with fail
        refine (impl_PlanOfTable P _ _ (X.out.base (Nat.zero_le _))).mono ?_
        rintro e w8 ⟨vZ, rfl, hZ, hb8⟩
        clear rcA3 rzA3 rlA3 rcA4 rzA4 rlA4 rcA6 rzA6 rlA6
        have A3 := A3.ext hb8
        have A4 := A4.ext hb8
        have A6 := A6.ext hb8
        have V := Lib.hid (V.out.ext hb8)
        have X := Lib.hid (X.out.ext hb8)
        have Y := Lib.hid (Y.out.ext hb8)
        have E := ext_trans E hb8
        clear hb8
        have Z := Lib.hid hZ
        clear hZ
        rw [H2.out.2] at Z ⊢
        rw [H2.out.1]
        obtain ⟨aZ, cZ, rfl, -⟩ := Z.out.open
        obtain ⟨rcA3, rzA3⟩ := (A3).rules; have rlA3 := (A3).lt
        obtain ⟨rcA4, rzA4⟩ := (A4).rules; have rlA4 := (A4).lt
        obtain ⟨rcA6, rzA6⟩ := (A6).rules; have rlA6 := (A6).lt
        go_wp2_with fail
        obtain ⟨w9, hw9, A9, hs9, hb9⟩ := one_box w8 #[.int .i64 P.pts, .slice aZ P.bs.length cZ] 29
        rw [← hw9.out]
        clear rcA3 rzA3 rlA3 rcA4 rzA4 rlA4 rcA6 rzA6 rlA6
        have A3 := A3.ext hb9
        have A4 := A4.ext hb9
        have A6 := A6.ext hb9
        have V := Lib.hid (V.out.ext hb9)
        have X := Lib.hid (X.out.ext hb9)
        have Y := Lib.hid (Y.out.ext hb9)
        have Z := Lib.hid (Z.out.ext hb9)
        have E := ext_trans E hb9
        clear hb9
        obtain ⟨rcA3, rzA3⟩ := (A3).rules; have rlA3 := (A3).lt
        obtain ⟨rcA4, rzA4⟩ := (A4).rules; have rlA4 := (A4).lt
        obtain ⟨rcA6, rzA6⟩ := (A6).rules; have rlA6 := (A6).lt
        obtain ⟨rcA9, rzA9⟩ := (A9).rules; have rlA9 := (A9).lt
        go_wp2_with fail
        refine (impl_AlikeOk P p _ _ _ (X.out.base (Nat.zero_le _)) (V.out.base (Nat.zero_le _))).mono ?_
        rintro e w10 ⟨rfl, hb10⟩
        clear rcA3 rzA3 rlA3 rcA4 rzA4 rlA4 rcA6 rzA6 rlA6 rcA9 rzA9 rlA9
        have A3 := A3.ext hb10
        have A4 := A4.ext hb10
        have A6 := A6.ext hb10
        have A9 := A9.ext hb10
        have V := Lib.hid (V.out.ext hb10)
        have X := Lib.hid (X.out.ext hb10)
        have Y := Lib.hid (Y.out.ext hb10)
        have Z := Lib.hid (Z.out.ext hb10)
        have E := ext_trans E hb10
        clear hb10
        rw [H1.out]
        obtain ⟨rcA3, rzA3⟩ := (A3).rules; have rlA3 := (A3).lt
        obtain ⟨rcA4, rzA4⟩ := (A4).rules; have rlA4 := (A4).lt
        obtain ⟨rcA6, rzA6⟩ := (A6).rules; have rlA6 := (A6).lt
        obtain ⟨rcA9, rzA9⟩ := (A9).rules; have rlA9 := (A9).lt
        go_wp2_with fail
        refine (laws_samePlan P P _ _ _ (Z.out.base (Nat.zero_le _)) (X.out.base (Nat.zero_le _))).mono ?_
        rintro e w11 ⟨rfl, hb11⟩
        clear rcA3 rzA3 rlA3 rcA4 rzA4 rlA4 rcA6 rzA6 rlA6 rcA9 rzA9 rlA9
        have A3 := A3.ext hb11
        have A4 := A4.ext hb11
        have A6 := A6.ext hb11
        have A9 := A9.ext hb11
        have V := Lib.hid (V.out.ext hb11)
        have X := Lib.hid (X.out.ext hb11)
        have Y := Lib.hid (Y.out.ext hb11)
        have Z := Lib.hid (Z.out.ext hb11)
        have E := ext_trans E hb11
        clear hb11
        rw [decide_eq_true rfl]
        go_wp2_with fail
        go_ret
        exact ⟨rfl, E⟩
end Go.Proofs.Ytpccfkbpnfbdaaa
