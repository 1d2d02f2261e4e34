/- The walk of FnExactNextOf: it returns true, whatever plan and happenings came in. No condition. -/
import Derived.Test.YtffcfambgcaikaaHapLaw
import Derived.Test.YtffcfambgcaikaaWaitI
import Derived.Test.YtffcfambgcaikaaWaitS
namespace Go.Proofs.Ytffcfambgcaikaa
open Go.RowKit
set_option linter.unusedVariables false
set_option linter.unusedSimpArgs false
set_option maxRecDepth 100000 in
set_option maxHeartbeats 8000000 in
theorem walk_ExactNextOf (pts0 : Int) (a0 : Option Addr) (n0 cap0 : Nat) (l0 : List Bd) (a1 : Option Addr) (n1 cap1 : Nat) (l1 : List Hp) (w : World) (h0 : ABds w a0 n0 cap0 l0) (h1 : AHps w a1 n1 cap1 l1) :
    Calls Try.prog 9 #[.agg #[.int .i64 pts0, .slice a0 n0 cap0], .slice a1 n1 cap1] w fun e w' => e = .returned (.bool true) ∧ Below w.heap.size w w' := by
  obtain ⟨hl0, hcap0, hmax0, -⟩ := id h0
  obtain ⟨hl1, hcap1, hmax1, -⟩ := id h1
  have H0 := Lib.hid h0; have H1 := Lib.hid h1
  have HL0 := Lib.hid hl0; have HL1 := Lib.hid hl1
  clear h0 h1 hl0 hl1
  by_cases hbig0 : (1048576 : Int) - n0 < 0
  · have Hs0 := Lib.hid (szR_neg hbig0)
    go_enter Try.func9, Try.ntmps9
    go_wp2_with fail
    obtain ⟨w1, hw1, A0, hs1, hb1⟩ := one_box w #[.int .i64 pts0, .slice a0 n0 cap0] 49
    rw [← hw1.out]
    have E := hb1
    clear hb1
    obtain ⟨rcA0, rzA0⟩ := (A0).rules; have rlA0 := (A0).lt
    go_wp2_with fail
    refine (laws_szPlan pts0 a0 n0 cap0 _ _ (by omega) (by omega) (by omega)).mono ?_
    rintro e w2 ⟨rfl, hb2⟩
    clear rcA0 rzA0 rlA0
    have A0 := A0.ext hb2
    have E := ext_trans E hb2
    clear hb2
    rw [Hs0.out]
    obtain ⟨rcA0, rzA0⟩ := (A0).rules; have rlA0 := (A0).lt
    go_wp2_with fail
    go_ret
    exact ⟨rfl, E⟩
  have Hs0 := Lib.hid (szR_pos hbig0)
  by_cases hbig1 : (1048576 : Int) - n0 - n1 < 0
  · have Hs1 := Lib.hid (szR_neg hbig1)
    go_enter Try.func9, Try.ntmps9
    go_wp2_with fail
    obtain ⟨w1, hw1, A0, hs1, hb1⟩ := one_box w #[.int .i64 pts0, .slice a0 n0 cap0] 49
    rw [← hw1.out]
    have E := hb1
    clear hb1
    obtain ⟨rcA0, rzA0⟩ := (A0).rules; have rlA0 := (A0).lt
    go_wp2_with fail
    refine (laws_szPlan pts0 a0 n0 cap0 _ _ (by omega) (by omega) (by omega)).mono ?_
    rintro e w2 ⟨rfl, hb2⟩
    clear rcA0 rzA0 rlA0
    have A0 := A0.ext hb2
    have E := ext_trans E hb2
    clear hb2
    rw [Hs0.out]
    obtain ⟨rcA0, rzA0⟩ := (A0).rules; have rlA0 := (A0).lt
    go_wp2_with fail
    refine (laws_szHappeningS a1 n1 cap1 _ _ (by omega) (by omega) (by omega)).mono ?_
    rintro e w3 ⟨rfl, hb3⟩
    clear rcA0 rzA0 rlA0
    have A0 := A0.ext hb3
    have E := ext_trans E hb3
    clear hb3
    rw [Hs1.out]
    obtain ⟨rcA0, rzA0⟩ := (A0).rules; have rlA0 := (A0).lt
    go_wp2_with fail
    go_ret
    exact ⟨rfl, E⟩
  have Hs1 := Lib.hid (szR_pos hbig1)
  have hn0 : n0 ≤ 1048576 := by omega
  have hn1 : n1 ≤ 1048576 := by omega
  have hll0 : l0.length ≤ 1048576 := by have := HL0.out; omega
  have hll1 : l1.length ≤ 1048576 := by have := HL1.out; omega
  go_enter Try.func9, Try.ntmps9
  go_wp2_with fail
  obtain ⟨w1, hw1, A0, hs1, hb1⟩ := one_box w #[.int .i64 pts0, .slice a0 n0 cap0] 49
  rw [← hw1.out]
  have E := hb1
  have qw1 := (hb1).size
  clear hb1
  obtain ⟨rcA0, rzA0⟩ := (A0).rules; have rlA0 := (A0).lt
  go_wp2_with fail
  refine (laws_szPlan pts0 a0 n0 cap0 _ _ (by omega) (by omega) (by omega)).mono ?_
  rintro e w2 ⟨rfl, hb2⟩
  clear rcA0 rzA0 rlA0
  have A0 := A0.ext hb2
  have E := ext_trans E hb2
  have qw2 := (hb2).size
  clear hb2
  rw [Hs0.out]
  obtain ⟨rcA0, rzA0⟩ := (A0).rules; have rlA0 := (A0).lt
  go_wp2_with fail
  refine (laws_szHappeningS a1 n1 cap1 _ _ (by omega) (by omega) (by omega)).mono ?_
  rintro e w3 ⟨rfl, hb3⟩
  clear rcA0 rzA0 rlA0
  have A0 := A0.ext hb3
  have E := ext_trans E hb3
  have qw3 := (hb3).size
  clear hb3
  rw [Hs1.out]
  obtain ⟨rcA0, rzA0⟩ := (A0).rules; have rlA0 := (A0).lt
  go_wp2_with fail
  obtain ⟨h, hh⟩ : ∃ h : Hp, Hid (h = (⟨pts0, l0⟩ : Pl).next l1) := ⟨_, rfl⟩
  obtain ⟨ok, hok⟩ : ∃ b : Bool, Hid (b = (⟨pts0, l0⟩ : Pl).nextOk l1) := ⟨_, rfl⟩
  have hoo : (ok != ok) = false := by simp
  refine (laws_toPlan pts0 a0 n0 cap0 l0 _ (H0.out.ext E) hn0).mono ?_
  rintro e w4 ⟨vT, rfl, hT, hb4⟩
  clear rcA0 rzA0 rlA0
  have A0 := A0.ext hb4
  have E := ext_trans E hb4
  have qw4 := (hb4).size
  clear hb4
  obtain ⟨aT, cT, rfl, -⟩ := hT.open
  have T := Lib.hid hT
  clear hT
  have BT := Lib.hid T.out.lt
  obtain ⟨rcA0, rzA0⟩ := (A0).rules; have rlA0 := (A0).lt
  go_wp2_with fail
  refine (laws_toHappeningS a1 n1 cap1 l1 _ (H1.out.ext E) hn1).mono ?_
  rintro e w5 ⟨vS, rfl, hS, hb5⟩
  clear rcA0 rzA0 rlA0
  have A0 := A0.ext hb5
  have T := Lib.hid (T.out.ext hb5)
  have E := ext_trans E hb5
  have qw5 := (hb5).size
  clear hb5
  obtain ⟨aS, cS, rfl, -⟩ := hS.open
  have S := Lib.hid hS
  clear hS
  have BS := Lib.hid S.out.lt
  obtain ⟨rcA0, rzA0⟩ := (A0).rules; have rlA0 := (A0).lt
  go_wp2_with fail
  refine (spec_NextOf (⟨pts0, l0⟩ : Pl) _ _ l1 _ (T.out.base (Nat.zero_le _)) (S.out.base (Nat.zero_le _)) (by omega)).mono ?_
  rintro e w6 ⟨rfl, hb6⟩
  clear rcA0 rzA0 rlA0
  have A0 := A0.ext hb6
  have T := Lib.hid (T.out.ext hb6)
  have S := Lib.hid (S.out.ext hb6)
  have E := ext_trans E hb6
  have qw6 := (hb6).size
  clear hb6
  rw [← hh.out, ← hok.out]
  unfold Hp.val
  clear T BT S BS
  obtain ⟨rcA0, rzA0⟩ := (A0).rules; have rlA0 := (A0).lt
  go_wp2_with fail
  obtain ⟨w7, hw7, Wb, hs7, hb7⟩ := one_box w6 #[.int .i64 h.pt, .int .i64 h.tm] 30
  rw [← hw7.out]
  clear rcA0 rzA0 rlA0
  have A0 := A0.ext hb7
  have E := ext_trans E hb7
  have qw7 := (hb7).size
  clear hb7
  obtain ⟨rcA0, rzA0⟩ := (A0).rules; have rlA0 := (A0).lt
  obtain ⟨rcWb, rzWb⟩ := (Wb).rules; have rlWb := (Wb).lt
  go_wp2_with fail
  refine (laws_toPlan pts0 a0 n0 cap0 l0 _ (H0.out.ext E) hn0).mono ?_
  rintro e w8 ⟨vX, rfl, hX, hb8⟩
  clear rcA0 rzA0 rlA0 rcWb rzWb rlWb
  have A0 := A0.ext hb8
  have Wb := Wb.ext hb8
  have E := ext_trans E hb8
  have qw8 := (hb8).size
  clear hb8
  obtain ⟨aX, cX, rfl, -⟩ := hX.open
  have X := Lib.hid hX
  clear hX
  have BX := Lib.hid X.out.lt
  go_wp2_with fail
  obtain ⟨w9, hw9, Xb, hs9, hb9⟩ := one_box w8 #[.int .i64 pts0, .slice aX l0.length cX] 25
  rw [← hw9.out]
  have A0 := A0.ext hb9
  have Wb := Wb.ext hb9
  have X := Lib.hid (X.out.ext hb9)
  have E := ext_trans E hb9
  have qw9 := (hb9).size
  clear hb9
  obtain ⟨rcA0, rzA0⟩ := (A0).rules; have rlA0 := (A0).lt
  obtain ⟨rcWb, rzWb⟩ := (Wb).rules; have rlWb := (Wb).lt
  obtain ⟨rcXb, rzXb⟩ := (Xb).rules; have rlXb := (Xb).lt
  go_wp2_with fail
  refine (laws_toHappeningS a1 n1 cap1 l1 _ (H1.out.ext E) hn1).mono ?_
  rintro e w10 ⟨vU, rfl, hU, hb10⟩
  clear rcA0 rzA0 rlA0 rcWb rzWb rlWb rcXb rzXb rlXb
  have A0 := A0.ext hb10
  have Wb := Wb.ext hb10
  have Xb := Xb.ext hb10
  have X := Lib.hid (X.out.ext hb10)
  have E := ext_trans E hb10
  have qw10 := (hb10).size
  clear hb10
  obtain ⟨aU, cU, rfl, -⟩ := hU.open
  have U := Lib.hid hU
  clear hU
  have BU := Lib.hid U.out.lt
  obtain ⟨rcA0, rzA0⟩ := (A0).rules; have rlA0 := (A0).lt
  obtain ⟨rcWb, rzWb⟩ := (Wb).rules; have rlWb := (Wb).lt
  obtain ⟨rcXb, rzXb⟩ := (Xb).rules; have rlXb := (Xb).lt
  go_wp2_with fail
  refine (impl_NextOf (⟨pts0, l0⟩ : Pl) _ _ l1 _ (X.out.base (Nat.zero_le _)) (U.out.base (Nat.zero_le _)) (by omega)).mono ?_
  rintro e w11 ⟨rfl, hb11⟩
  clear rcA0 rzA0 rlA0 rcWb rzWb rlWb rcXb rzXb rlXb
  have A0 := A0.ext hb11
  have Wb := Wb.ext hb11
  have Xb := Xb.ext hb11
  have X := Lib.hid (X.out.ext hb11)
  have U := Lib.hid (U.out.ext hb11)
  have E := ext_trans E hb11
  have qw11 := (hb11).size
  clear hb11
  rw [← hh.out, ← hok.out]
  unfold Hp.val
  obtain ⟨rcA0, rzA0⟩ := (A0).rules; have rlA0 := (A0).lt
  obtain ⟨rcWb, rzWb⟩ := (Wb).rules; have rlWb := (Wb).lt
  obtain ⟨rcXb, rzXb⟩ := (Xb).rules; have rlXb := (Xb).lt
  go_wp2_with fail
  obtain ⟨w12, hw12, Gb, hs12, hb12⟩ := one_box w11 #[.int .i64 h.pt, .int .i64 h.tm] 30
  rw [← hw12.out]
  clear rcA0 rzA0 rlA0 rcWb rzWb rlWb rcXb rzXb rlXb
  have A0 := A0.ext hb12
  have Wb := Wb.ext hb12
  have Xb := Xb.ext hb12
  have X := Lib.hid (X.out.ext hb12)
  have U := Lib.hid (U.out.ext hb12)
  have E := ext_trans E hb12
  have qw12 := (hb12).size
  clear hb12
  obtain ⟨rcA0, rzA0⟩ := (A0).rules; have rlA0 := (A0).lt
  obtain ⟨rcWb, rzWb⟩ := (Wb).rules; have rlWb := (Wb).lt
  obtain ⟨rcXb, rzXb⟩ := (Xb).rules; have rlXb := (Xb).lt
  obtain ⟨rcGb, rzGb⟩ := (Gb).rules; have rlGb := (Gb).lt
  go_wp2_with fail
  refine ((show Calls Try.prog 39 #[.agg #[.int .i64 h.pt, .int .i64 h.tm], .agg #[.int .i64 h.pt, .int .i64 h.tm]] _ _ from laws_eqHappening h h _)).mono ?_
  rintro e w13 ⟨rfl, hb13⟩
  clear rcA0 rzA0 rlA0 rcWb rzWb rlWb rcXb rzXb rlXb rcGb rzGb rlGb
  have A0 := A0.ext hb13
  have Wb := Wb.ext hb13
  have Xb := Xb.ext hb13
  have Gb := Gb.ext hb13
  have X := Lib.hid (X.out.ext hb13)
  have U := Lib.hid (U.out.ext hb13)
  have E := ext_trans E hb13
  have qw13 := (hb13).size
  clear hb13
  rw [decide_eq_true rfl]
  obtain ⟨rcA0, rzA0⟩ := (A0).rules; have rlA0 := (A0).lt
  obtain ⟨rcWb, rzWb⟩ := (Wb).rules; have rlWb := (Wb).lt
  obtain ⟨rcXb, rzXb⟩ := (Xb).rules; have rlXb := (Xb).lt
  obtain ⟨rcGb, rzGb⟩ := (Gb).rules; have rlGb := (Gb).lt
  go_wp2_with fail
  go_region_held3 (fun w' => w'.cell? ⟨w.heap.size, 0, none⟩ = some (Value.int .i64 pts0) ∧ w'.cell? ⟨w.heap.size, 1, none⟩ = some (Value.slice a0 n0 cap0) ∧ w'.cell? ⟨w8.heap.size, 0, none⟩ = some (Value.int .i64 pts0) ∧ w'.cell? ⟨w8.heap.size, 1, none⟩ = some (Value.slice aX l0.length cX))
    (first | exact ⟨A0.cell0 rfl, A0.cell0 rfl, Xb.cell0 rfl, Xb.cell0 rfl⟩ | exact ⟨A0a14.cell0 rfl, A0a14.cell0 rfl, Xba14.cell0 rfl, Xba14.cell0 rfl⟩ | exact ⟨A0b14.cell0 rfl, A0b14.cell0 rfl, Xbb14.cell0 rfl, Xbb14.cell0 rfl⟩)
    (first | (go_at_call 25
              refine (laws_toPlan pts0 a0 n0 cap0 l0 _ (H0.out.ext (ext_trans E (ext_drew (ext_refl w13)))) hn0).mono ?_
              rintro e wa14 ⟨vY, rfl, hY, hba14⟩
              obtain ⟨aY, cY, rfl, -⟩ := hY.open
              have A0a14 := A0.ext (ext_trans (ext_drew (ext_refl w13)) hba14)
              have Xba14 := Xb.ext (ext_trans (ext_drew (ext_refl w13)) hba14)
              have Ya14 := hY
              have Ha14 := ext_trans (ext_drew (ext_refl w13)) hba14)
           | (go_at_call 28
              refine (laws_eqPlan (⟨pts0, l0⟩ : Pl) (⟨pts0, l0⟩ : Pl) _ _ _ ((X.out.ext Ha14).base (Nat.zero_le _)) (Ya14.base (Nat.zero_le _))).mono ?_
              rintro e wb14 ⟨rfl, hbb14⟩
              rw [decide_eq_true rfl]
              have A0b14 := A0.ext (ext_trans Ha14 hbb14)
              have Xbb14 := Xb.ext (ext_trans Ha14 hbb14)
              have Yb14 := Ya14.ext hbb14
              have Hb14 := ext_trans Ha14 hbb14))
  clear rcA0 rzA0 rlA0 rcWb rzWb rlWb rcXb rzXb rlXb rcGb rzGb rlGb
  have A0 := A0.ext Hb14
  have Wb := Wb.ext Hb14
  have Xb := Xb.ext Hb14
  have Gb := Gb.ext Hb14
  have X := Lib.hid (X.out.ext Hb14)
  have U := Lib.hid (U.out.ext Hb14)
  have E := ext_trans E Hb14
  have Y := Lib.hid Yb14
  have qwb14 := (Hb14).size
  clear A0a14 Xba14 A0b14 Xbb14 hba14 hbb14 Ha14 Hb14
  obtain ⟨rcA0, rzA0⟩ := (A0).rules; have rlA0 := (A0).lt
  obtain ⟨rcWb, rzWb⟩ := (Wb).rules; have rlWb := (Wb).lt
  obtain ⟨rcXb, rzXb⟩ := (Xb).rules; have rlXb := (Xb).lt
  obtain ⟨rcGb, rzGb⟩ := (Gb).rules; have rlGb := (Gb).lt
  clear Y
  clear rcA0 rzA0 rlA0 rcWb rzWb rlWb rcXb rzXb rlXb rcGb rzGb rlGb
  obtain ⟨rcA0, rzA0⟩ := (A0).rules; have rlA0 := (A0).lt
  obtain ⟨rcWb, rzWb⟩ := (Wb).rules; have rlWb := (Wb).lt
  obtain ⟨rcXb, rzXb⟩ := (Xb).rules; have rlXb := (Xb).lt
  obtain ⟨rcGb, rzGb⟩ := (Gb).rules; have rlGb := (Gb).lt
  go_wp2_with fail
  refine (laws_toHappeningS a1 n1 cap1 l1 _ (H1.out.ext E) hn1).mono ?_
  rintro e w15 ⟨vZ, rfl, hZ, hb15⟩
  clear rcA0 rzA0 rlA0 rcWb rzWb rlWb rcXb rzXb rlXb rcGb rzGb rlGb
  have A0 := A0.ext hb15
  have Wb := Wb.ext hb15
  have Xb := Xb.ext hb15
  have Gb := Gb.ext hb15
  have X := Lib.hid (X.out.ext hb15)
  have U := Lib.hid (U.out.ext hb15)
  have E := ext_trans E hb15
  have qw15 := (hb15).size
  clear hb15
  obtain ⟨aZ, cZ, rfl, -⟩ := hZ.open
  have Z := Lib.hid hZ
  clear hZ
  have BZ := Lib.hid Z.out.lt
  obtain ⟨rcA0, rzA0⟩ := (A0).rules; have rlA0 := (A0).lt
  obtain ⟨rcWb, rzWb⟩ := (Wb).rules; have rlWb := (Wb).lt
  obtain ⟨rcXb, rzXb⟩ := (Xb).rules; have rlXb := (Xb).lt
  obtain ⟨rcGb, rzGb⟩ := (Gb).rules; have rlGb := (Gb).lt
  go_wp2_with fail
  refine (laws_eqHappeningS _ _ l1 l1 _ (U.out.base (Nat.zero_le _)) (Z.out.base (Nat.zero_le _))).mono ?_
  rintro e w16 ⟨rfl, hb16⟩
  clear rcA0 rzA0 rlA0 rcWb rzWb rlWb rcXb rzXb rlXb rcGb rzGb rlGb
  have A0 := A0.ext hb16
  have Wb := Wb.ext hb16
  have Xb := Xb.ext hb16
  have Gb := Gb.ext hb16
  have X := Lib.hid (X.out.ext hb16)
  have U := Lib.hid (U.out.ext hb16)
  have Z := Lib.hid (Z.out.ext hb16)
  have E := ext_trans E hb16
  have qw16 := (hb16).size
  clear hb16
  rw [decide_eq_true rfl]
  clear Z BZ
  obtain ⟨rcA0, rzA0⟩ := (A0).rules; have rlA0 := (A0).lt
  obtain ⟨rcWb, rzWb⟩ := (Wb).rules; have rlWb := (Wb).lt
  obtain ⟨rcXb, rzXb⟩ := (Xb).rules; have rlXb := (Xb).lt
  obtain ⟨rcGb, rzGb⟩ := (Gb).rules; have rlGb := (Gb).lt
  go_wp2_with fail
  go_ret
  exact ⟨rfl, E⟩
end Go.Proofs.Ytffcfambgcaikaa
