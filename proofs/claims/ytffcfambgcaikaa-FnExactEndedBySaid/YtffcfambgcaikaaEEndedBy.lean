/- The walk of FnExactEndedBy: it returns true, whatever plan and happenings came in. No condition. -/
import Derived.Test.YtffcfambgcaikaaHapLaw
import Derived.Test.YtffcfambgcaikaaEndI
import Derived.Test.YtffcfambgcaikaaEndS
namespace Go.Proofs.Ytffcfambgcaikaa
open Go.RowKit
set_option linter.unusedVariables false
set_option linter.unusedSimpArgs false
set_option maxRecDepth 100000 in
set_option maxHeartbeats 8000000 in
theorem walk_ExactEndedBy (pts0 : Int) (a0 : Option Addr) (n0 cap0 : Nat) (l0 : List Bd) (a1 : Option Addr) (n1 cap1 : Nat) (l1 : List Hp) (w : World) (h0 : ABds w a0 n0 cap0 l0) (h1 : AHps w a1 n1 cap1 l1) :
    Calls Try.prog 5 #[.agg #[.int .i64 pts0, .slice a0 n0 cap0], .slice a1 n1 cap1] w fun e w' => e = .returned (.bool true) ∧ Below w.heap.size w w' := by
  obtain ⟨hl0, hcap0, hmax0, -⟩ := id h0
  obtain ⟨hl1, hcap1, hmax1, -⟩ := id h1
  have H0 := Lib.hid h0; have H1 := Lib.hid h1
  have HL0 := Lib.hid hl0; have HL1 := Lib.hid hl1
  clear h0 h1 hl0 hl1
  by_cases hbig0 : (1048576 : Int) - n0 < 0
  · have Hs0 := Lib.hid (szR_neg hbig0)
    go_enter Try.func5, Try.ntmps5
    go_wp2_with fail
    obtain ⟨w1, hw1, A0, hs1, hb1⟩ := one_box w #[.int .i64 pts0, .slice a0 n0 cap0] 49
    rw [← hw1.out]
    have E := hb1
    clear hb1
    obtain ⟨rcA0, rzA0⟩ := (A0).rules; have rlA0 := (A0).lt
    go_wp2_with fail
    refine (laws_szPlan pts0 a0 n0 cap0 _ _ (by omega) (by omega) (by omega)).mono ?_
    rintro e w2 ⟨rfl, hb2⟩
    clear rcA0 rzA0 rlA0
    have A0 := A0.ext hb2
    have E := ext_trans E hb2
    clear hb2
    rw [Hs0.out]
    obtain ⟨rcA0, rzA0⟩ := (A0).rules; have rlA0 := (A0).lt
    go_wp2_with fail
    go_ret
    exact ⟨rfl, E⟩
  have Hs0 := Lib.hid (szR_pos hbig0)
  by_cases hbig1 : (1048576 : Int) - n0 - n1 < 0
  · have Hs1 := Lib.hid (szR_neg hbig1)
    go_enter Try.func5, Try.ntmps5
    go_wp2_with fail
    obtain ⟨w1, hw1, A0, hs1, hb1⟩ := one_box w #[.int .i64 pts0, .slice a0 n0 cap0] 49
    rw [← hw1.out]
    have E := hb1
    clear hb1
    obtain ⟨rcA0, rzA0⟩ := (A0).rules; have rlA0 := (A0).lt
    go_wp2_with fail
    refine (laws_szPlan pts0 a0 n0 cap0 _ _ (by omega) (by omega) (by omega)).mono ?_
    rintro e w2 ⟨rfl, hb2⟩
    clear rcA0 rzA0 rlA0
    have A0 := A0.ext hb2
    have E := ext_trans E hb2
    clear hb2
    rw [Hs0.out]
    obtain ⟨rcA0, rzA0⟩ := (A0).rules; have rlA0 := (A0).lt
    go_wp2_with fail
    refine (laws_szHappeningS a1 n1 cap1 _ _ (by omega) (by omega) (by omega)).mono ?_
    rintro e w3 ⟨rfl, hb3⟩
    clear rcA0 rzA0 rlA0
    have A0 := A0.ext hb3
    have E := ext_trans E hb3
    clear hb3
    rw [Hs1.out]
    obtain ⟨rcA0, rzA0⟩ := (A0).rules; have rlA0 := (A0).lt
    go_wp2_with fail
    go_ret
    exact ⟨rfl, E⟩
  have Hs1 := Lib.hid (szR_pos hbig1)
  have hn0 : n0 ≤ 1048576 := by omega
  have hn1 : n1 ≤ 1048576 := by omega
  have hll0 : l0.length ≤ 1048576 := by have := HL0.out; omega
  have hll1 : l1.length ≤ 1048576 := by have := HL1.out; omega
  go_enter Try.func5, Try.ntmps5
  go_wp2_with fail
  obtain ⟨w1, hw1, A0, hs1, hb1⟩ := one_box w #[.int .i64 pts0, .slice a0 n0 cap0] 49
  rw [← hw1.out]
  have E := hb1
  have qw1 := (hb1).size
  clear hb1
  obtain ⟨rcA0, rzA0⟩ := (A0).rules; have rlA0 := (A0).lt
  go_wp2_with fail
  refine (laws_szPlan pts0 a0 n0 cap0 _ _ (by omega) (by omega) (by omega)).mono ?_
  rintro e w2 ⟨rfl, hb2⟩
  clear rcA0 rzA0 rlA0
  have A0 := A0.ext hb2
  have E := ext_trans E hb2
  have qw2 := (hb2).size
  clear hb2
  rw [Hs0.out]
  obtain ⟨rcA0, rzA0⟩ := (A0).rules; have rlA0 := (A0).lt
  go_wp2_with fail
  refine (laws_szHappeningS a1 n1 cap1 _ _ (by omega) (by omega) (by omega)).mono ?_
  rintro e w3 ⟨rfl, hb3⟩
  clear rcA0 rzA0 rlA0
  have A0 := A0.ext hb3
  have E := ext_trans E hb3
  have qw3 := (hb3).size
  clear hb3
  rw [Hs1.out]
  obtain ⟨rcA0, rzA0⟩ := (A0).rules; have rlA0 := (A0).lt
  go_wp2_with fail
  obtain ⟨P, hP⟩ : ∃ P : List Hp, Hid (P = ((⟨pts0, l0⟩ : Pl).ended l1).getD []) := ⟨_, rfl⟩
  obtain ⟨ok, hok⟩ : ∃ b : Bool, Hid (b = ((⟨pts0, l0⟩ : Pl).ended l1).isSome) := ⟨_, rfl⟩
  have hoo : (ok != ok) = false := by simp
  obtain ⟨M, hM⟩ : ∃ M, Hid (M = P.length) := ⟨_, rfl⟩
  have hM5 : M ≤ 5 := by
    rw [hM.out, hP.out]
    cases he : (⟨pts0, l0⟩ : Pl).ended l1
    · exact Nat.zero_le _
    · obtain ⟨h1, -, -, -, h2, -⟩ := ended_some he
      have := (plok_in (fits_ok (heard_iff.1 h1).1).1).2.2.1
      simp only [Option.getD_some]
      omega
  refine (laws_toPlan pts0 a0 n0 cap0 l0 _ (H0.out.ext E) hn0).mono ?_
  rintro e w4 ⟨vT, rfl, hT, hb4⟩
  clear rcA0 rzA0 rlA0
  have A0 := A0.ext hb4
  have E := ext_trans E hb4
  have qw4 := (hb4).size
  clear hb4
  obtain ⟨aT, cT, rfl, -⟩ := hT.open
  have T := Lib.hid hT
  clear hT
  have BT := Lib.hid T.out.lt
  obtain ⟨rcA0, rzA0⟩ := (A0).rules; have rlA0 := (A0).lt
  go_wp2_with fail
  refine (laws_toHappeningS a1 n1 cap1 l1 _ (H1.out.ext E) hn1).mono ?_
  rintro e w5 ⟨vS, rfl, hS, hb5⟩
  clear rcA0 rzA0 rlA0
  have A0 := A0.ext hb5
  have T := Lib.hid (T.out.ext hb5)
  have E := ext_trans E hb5
  have qw5 := (hb5).size
  clear hb5
  obtain ⟨aS, cS, rfl, -⟩ := hS.open
  have S := Lib.hid hS
  clear hS
  have BS := Lib.hid S.out.lt
  obtain ⟨rcA0, rzA0⟩ := (A0).rules; have rlA0 := (A0).lt
  go_wp2_with fail
  refine (spec_EndedBy (⟨pts0, l0⟩ : Pl) _ _ l1 _ (T.out.base (Nat.zero_le _)) (S.out.base (Nat.zero_le _)) (by omega)).mono ?_
  rintro e w6 ⟨vW, rfl, hW, hb6⟩
  clear rcA0 rzA0 rlA0
  have A0 := A0.ext hb6
  have T := Lib.hid (T.out.ext hb6)
  have S := Lib.hid (S.out.ext hb6)
  have E := ext_trans E hb6
  have qw6 := (hb6).size
  clear hb6
  obtain ⟨aW, cW, rfl, -⟩ := hW.open
  have W := Lib.hid hW
  clear hW
  have BW := Lib.hid W.out.lt
  rw [← hP.out] at W BW ⊢
  rw [← hM.out] at W BW ⊢
  rw [← hok.out]
  clear T BT S BS
  obtain ⟨rcA0, rzA0⟩ := (A0).rules; have rlA0 := (A0).lt
  go_wp2_with fail
  refine (laws_toPlan pts0 a0 n0 cap0 l0 _ (H0.out.ext E) hn0).mono ?_
  rintro e w7 ⟨vX, rfl, hX, hb7⟩
  clear rcA0 rzA0 rlA0
  have A0 := A0.ext hb7
  have W := Lib.hid (W.out.ext hb7)
  have E := ext_trans E hb7
  have qw7 := (hb7).size
  clear hb7
  obtain ⟨aX, cX, rfl, -⟩ := hX.open
  have X := Lib.hid hX
  clear hX
  have BX := Lib.hid X.out.lt
  go_wp2_with fail
  obtain ⟨w8, hw8, Xb, hs8, hb8⟩ := one_box w7 #[.int .i64 pts0, .slice aX l0.length cX] 25
  rw [← hw8.out]
  have A0 := A0.ext hb8
  have W := Lib.hid (W.out.ext hb8)
  have X := Lib.hid (X.out.ext hb8)
  have E := ext_trans E hb8
  have qw8 := (hb8).size
  clear hb8
  obtain ⟨rcA0, rzA0⟩ := (A0).rules; have rlA0 := (A0).lt
  obtain ⟨rcXb, rzXb⟩ := (Xb).rules; have rlXb := (Xb).lt
  go_wp2_with fail
  refine (laws_toHappeningS a1 n1 cap1 l1 _ (H1.out.ext E) hn1).mono ?_
  rintro e w9 ⟨vU, rfl, hU, hb9⟩
  clear rcA0 rzA0 rlA0 rcXb rzXb rlXb
  have A0 := A0.ext hb9
  have Xb := Xb.ext hb9
  have W := Lib.hid (W.out.ext hb9)
  have X := Lib.hid (X.out.ext hb9)
  have E := ext_trans E hb9
  have qw9 := (hb9).size
  clear hb9
  obtain ⟨aU, cU, rfl, -⟩ := hU.open
  have U := Lib.hid hU
  clear hU
  have BU := Lib.hid U.out.lt
  obtain ⟨rcA0, rzA0⟩ := (A0).rules; have rlA0 := (A0).lt
  obtain ⟨rcXb, rzXb⟩ := (Xb).rules; have rlXb := (Xb).lt
  go_wp2_with fail
  refine (impl_EndedBy (⟨pts0, l0⟩ : Pl) _ _ l1 _ (X.out.base (Nat.zero_le _)) (U.out.base (Nat.zero_le _)) (by omega)).mono ?_
  rintro e w10 ⟨vG, rfl, hG, hb10⟩
  clear rcA0 rzA0 rlA0 rcXb rzXb rlXb
  have A0 := A0.ext hb10
  have Xb := Xb.ext hb10
  have W := Lib.hid (W.out.ext hb10)
  have X := Lib.hid (X.out.ext hb10)
  have U := Lib.hid (U.out.ext hb10)
  have E := ext_trans E hb10
  have qw10 := (hb10).size
  clear hb10
  obtain ⟨aG, cG, rfl, -⟩ := hG.open
  have G := Lib.hid hG
  clear hG
  have BG := Lib.hid G.out.lt
  rw [← hP.out] at G BG ⊢
  rw [← hM.out] at G BG ⊢
  rw [← hok.out]
  obtain ⟨rcA0, rzA0⟩ := (A0).rules; have rlA0 := (A0).lt
  obtain ⟨rcXb, rzXb⟩ := (Xb).rules; have rlXb := (Xb).lt
  go_wp2_with fail
  refine (laws_eqHappeningS _ _ P P _ (G.out.base (Nat.zero_le _)) (W.out.base (Nat.zero_le _))).mono ?_
  rintro e w11 ⟨rfl, hb11⟩
  clear rcA0 rzA0 rlA0 rcXb rzXb rlXb
  have A0 := A0.ext hb11
  have Xb := Xb.ext hb11
  have W := Lib.hid (W.out.ext hb11)
  have X := Lib.hid (X.out.ext hb11)
  have U := Lib.hid (U.out.ext hb11)
  have G := Lib.hid (G.out.ext hb11)
  have E := ext_trans E hb11
  have qw11 := (hb11).size
  clear hb11
  rw [decide_eq_true rfl]
  obtain ⟨rcA0, rzA0⟩ := (A0).rules; have rlA0 := (A0).lt
  obtain ⟨rcXb, rzXb⟩ := (Xb).rules; have rlXb := (Xb).lt
  go_wp2_with fail
  go_region_held3 (fun w' => w'.cell? ⟨w.heap.size, 0, none⟩ = some (Value.int .i64 pts0) ∧ w'.cell? ⟨w.heap.size, 1, none⟩ = some (Value.slice a0 n0 cap0) ∧ w'.cell? ⟨w7.heap.size, 0, none⟩ = some (Value.int .i64 pts0) ∧ w'.cell? ⟨w7.heap.size, 1, none⟩ = some (Value.slice aX l0.length cX))
    (first | exact ⟨A0.cell0 rfl, A0.cell0 rfl, Xb.cell0 rfl, Xb.cell0 rfl⟩ | exact ⟨A0a12.cell0 rfl, A0a12.cell0 rfl, Xba12.cell0 rfl, Xba12.cell0 rfl⟩ | exact ⟨A0b12.cell0 rfl, A0b12.cell0 rfl, Xbb12.cell0 rfl, Xbb12.cell0 rfl⟩)
    (first | (go_at_call 25
              refine (laws_toPlan pts0 a0 n0 cap0 l0 _ (H0.out.ext (ext_trans E (ext_drew (ext_refl w11)))) hn0).mono ?_
              rintro e wa12 ⟨vY, rfl, hY, hba12⟩
              obtain ⟨aY, cY, rfl, -⟩ := hY.open
              have A0a12 := A0.ext (ext_trans (ext_drew (ext_refl w11)) hba12)
              have Xba12 := Xb.ext (ext_trans (ext_drew (ext_refl w11)) hba12)
              have Ya12 := hY
              have Ha12 := ext_trans (ext_drew (ext_refl w11)) hba12)
           | (go_at_call 28
              refine (laws_eqPlan (⟨pts0, l0⟩ : Pl) (⟨pts0, l0⟩ : Pl) _ _ _ ((X.out.ext Ha12).base (Nat.zero_le _)) (Ya12.base (Nat.zero_le _))).mono ?_
              rintro e wb12 ⟨rfl, hbb12⟩
              rw [decide_eq_true rfl]
              have A0b12 := A0.ext (ext_trans Ha12 hbb12)
              have Xbb12 := Xb.ext (ext_trans Ha12 hbb12)
              have Yb12 := Ya12.ext hbb12
              have Hb12 := ext_trans Ha12 hbb12))
  clear rcA0 rzA0 rlA0 rcXb rzXb rlXb
  have A0 := A0.ext Hb12
  have Xb := Xb.ext Hb12
  have W := Lib.hid (W.out.ext Hb12)
  have X := Lib.hid (X.out.ext Hb12)
  have U := Lib.hid (U.out.ext Hb12)
  have G := Lib.hid (G.out.ext Hb12)
  have E := ext_trans E Hb12
  have Y := Lib.hid Yb12
  have qwb12 := (Hb12).size
  clear A0a12 Xba12 A0b12 Xbb12 hba12 hbb12 Ha12 Hb12
  obtain ⟨rcA0, rzA0⟩ := (A0).rules; have rlA0 := (A0).lt
  obtain ⟨rcXb, rzXb⟩ := (Xb).rules; have rlXb := (Xb).lt
  clear Y
  clear rcA0 rzA0 rlA0 rcXb rzXb rlXb
  obtain ⟨rcA0, rzA0⟩ := (A0).rules; have rlA0 := (A0).lt
  obtain ⟨rcXb, rzXb⟩ := (Xb).rules; have rlXb := (Xb).lt
  go_wp2_with fail
  refine (laws_toHappeningS a1 n1 cap1 l1 _ (H1.out.ext E) hn1).mono ?_
  rintro e w13 ⟨vZ, rfl, hZ, hb13⟩
  clear rcA0 rzA0 rlA0 rcXb rzXb rlXb
  have A0 := A0.ext hb13
  have Xb := Xb.ext hb13
  have W := Lib.hid (W.out.ext hb13)
  have X := Lib.hid (X.out.ext hb13)
  have U := Lib.hid (U.out.ext hb13)
  have G := Lib.hid (G.out.ext hb13)
  have E := ext_trans E hb13
  have qw13 := (hb13).size
  clear hb13
  obtain ⟨aZ, cZ, rfl, -⟩ := hZ.open
  have Z := Lib.hid hZ
  clear hZ
  have BZ := Lib.hid Z.out.lt
  obtain ⟨rcA0, rzA0⟩ := (A0).rules; have rlA0 := (A0).lt
  obtain ⟨rcXb, rzXb⟩ := (Xb).rules; have rlXb := (Xb).lt
  go_wp2_with fail
  refine (laws_eqHappeningS _ _ l1 l1 _ (U.out.base (Nat.zero_le _)) (Z.out.base (Nat.zero_le _))).mono ?_
  rintro e w14 ⟨rfl, hb14⟩
  clear rcA0 rzA0 rlA0 rcXb rzXb rlXb
  have A0 := A0.ext hb14
  have Xb := Xb.ext hb14
  have W := Lib.hid (W.out.ext hb14)
  have X := Lib.hid (X.out.ext hb14)
  have U := Lib.hid (U.out.ext hb14)
  have G := Lib.hid (G.out.ext hb14)
  have Z := Lib.hid (Z.out.ext hb14)
  have E := ext_trans E hb14
  have qw14 := (hb14).size
  clear hb14
  rw [decide_eq_true rfl]
  clear Z BZ
  obtain ⟨rcA0, rzA0⟩ := (A0).rules; have rlA0 := (A0).lt
  obtain ⟨rcXb, rzXb⟩ := (Xb).rules; have rlXb := (Xb).lt
  go_wp2_with fail
  refine (laws_markPlan pts0 _ l0 _ 1 _ X.out (by omega) (by omega) (by omega)).mono ?_
  rintro e w15 ⟨rfl, -, hg15⟩
  clear rcA0 rzA0 rlA0 rcXb rzXb rlXb
  have A0 := A0.grown hg15 (fun e => by have := BX.out _ e.symm; omega)
  have Xb := Xb.grown hg15 (fun e => by have := BX.out _ e.symm; omega)
  have W := Lib.hid (W.out.far hg15 (fun q hq e => by have := BW.out _ hq; have := BX.out _ e; omega))
  have U := Lib.hid (U.out.far hg15 (fun q hq e => by have := BU.out _ hq; have := BX.out _ e; omega))
  have G := Lib.hid (G.out.far hg15 (fun q hq e => by have := BG.out _ hq; have := BX.out _ e; omega))
  have E := ext_grown E hg15 (fun q hq => by have := BX.out q hq; omega)
  have qw15 := (hg15).size
  clear hg15
  obtain ⟨rcA0, rzA0⟩ := (A0).rules; have rlA0 := (A0).lt
  obtain ⟨rcXb, rzXb⟩ := (Xb).rules; have rlXb := (Xb).lt
  go_wp2_with fail
  refine (laws_markHappeningS _ l1 _ (1 + 3 * (l0.length : Int)) _ U.out (by omega) (by omega) (by omega)).mono ?_
  rintro e w16 ⟨rfl, -, hg16⟩
  clear rcA0 rzA0 rlA0 rcXb rzXb rlXb
  have A0 := A0.grown hg16 (fun e => by have := BU.out _ e.symm; omega)
  have Xb := Xb.grown hg16 (fun e => by have := BU.out _ e.symm; omega)
  have W := Lib.hid (W.out.far hg16 (fun q hq e => by have := BW.out _ hq; have := BU.out _ e; omega))
  have G := Lib.hid (G.out.far hg16 (fun q hq e => by have := BG.out _ hq; have := BU.out _ e; omega))
  have E := ext_grown E hg16 (fun q hq => by have := BU.out q hq; omega)
  have qw16 := (hg16).size
  clear hg16
  obtain ⟨rcA0, rzA0⟩ := (A0).rules; have rlA0 := (A0).lt
  obtain ⟨rcXb, rzXb⟩ := (Xb).rules; have rlXb := (Xb).lt
  go_wp2_with fail
  refine (laws_eqHappeningS _ _ P P _ (G.out.base (Nat.zero_le _)) (W.out.base (Nat.zero_le _))).mono ?_
  rintro e w17 ⟨rfl, hb17⟩
  clear rcA0 rzA0 rlA0 rcXb rzXb rlXb
  have A0 := A0.ext hb17
  have Xb := Xb.ext hb17
  have W := Lib.hid (W.out.ext hb17)
  have G := Lib.hid (G.out.ext hb17)
  have E := ext_trans E hb17
  have qw17 := (hb17).size
  clear hb17
  rw [decide_eq_true rfl]
  obtain ⟨rcA0, rzA0⟩ := (A0).rules; have rlA0 := (A0).lt
  obtain ⟨rcXb, rzXb⟩ := (Xb).rules; have rlXb := (Xb).lt
  go_wp2_with fail
  refine (laws_markHappeningS _ P _ 1 _ G.out (by omega) (by omega) (by rw [← hM.out]; omega)).mono ?_
  rintro e w18 ⟨rfl, hG, hg18⟩
  clear rcA0 rzA0 rlA0 rcXb rzXb rlXb
  have A0 := A0.grown hg18 (fun e => by have := BG.out _ e.symm; omega)
  have Xb := Xb.grown hg18 (fun e => by have := BG.out _ e.symm; omega)
  have W := Lib.hid (W.out.far hg18 (fun q hq e => by have := BW.out _ hq; have := BG.out _ e; omega))
  have E := ext_grown E hg18 (fun q hq => by have := BG.out q hq; omega)
  have qw18 := (hg18).size
  clear hg18
  have G := Lib.hid hG
  clear hG
  rw [← hM.out] at G ⊢
  obtain ⟨rcA0, rzA0⟩ := (A0).rules; have rlA0 := (A0).lt
  obtain ⟨rcXb, rzXb⟩ := (Xb).rules; have rlXb := (Xb).lt
  go_wp2_with fail
  refine (laws_heldHappeningS _ M 1 _ (G.out.base (Nat.zero_le _)) (by omega) (by omega) (by omega)).mono ?_
  rintro e w19 ⟨rfl, hb19⟩
  clear rcA0 rzA0 rlA0 rcXb rzXb rlXb
  have A0 := A0.ext hb19
  have Xb := Xb.ext hb19
  have W := Lib.hid (W.out.ext hb19)
  have G := Lib.hid (G.out.ext hb19)
  have E := ext_trans E hb19
  have qw19 := (hb19).size
  clear hb19
  obtain ⟨rcA0, rzA0⟩ := (A0).rules; have rlA0 := (A0).lt
  obtain ⟨rcXb, rzXb⟩ := (Xb).rules; have rlXb := (Xb).lt
  go_wp2_with fail
  refine (laws_toPlan pts0 a0 n0 cap0 l0 _ (H0.out.ext E) hn0).mono ?_
  rintro e w20 ⟨vT, rfl, hT, hb20⟩
  clear rcA0 rzA0 rlA0 rcXb rzXb rlXb
  have A0 := A0.ext hb20
  have Xb := Xb.ext hb20
  have W := Lib.hid (W.out.ext hb20)
  have G := Lib.hid (G.out.ext hb20)
  have E := ext_trans E hb20
  have qw20 := (hb20).size
  clear hb20
  obtain ⟨aT, cT, rfl, -⟩ := hT.open
  have T := Lib.hid hT
  clear hT
  have BT := Lib.hid T.out.lt
  obtain ⟨rcA0, rzA0⟩ := (A0).rules; have rlA0 := (A0).lt
  obtain ⟨rcXb, rzXb⟩ := (Xb).rules; have rlXb := (Xb).lt
  go_wp2_with fail
  refine (laws_toHappeningS a1 n1 cap1 l1 _ (H1.out.ext E) hn1).mono ?_
  rintro e w21 ⟨vS, rfl, hS, hb21⟩
  clear rcA0 rzA0 rlA0 rcXb rzXb rlXb
  have A0 := A0.ext hb21
  have Xb := Xb.ext hb21
  have W := Lib.hid (W.out.ext hb21)
  have G := Lib.hid (G.out.ext hb21)
  have T := Lib.hid (T.out.ext hb21)
  have E := ext_trans E hb21
  have qw21 := (hb21).size
  clear hb21
  obtain ⟨aS, cS, rfl, -⟩ := hS.open
  have S := Lib.hid hS
  clear hS
  have BS := Lib.hid S.out.lt
  obtain ⟨rcA0, rzA0⟩ := (A0).rules; have rlA0 := (A0).lt
  obtain ⟨rcXb, rzXb⟩ := (Xb).rules; have rlXb := (Xb).lt
  go_wp2_with fail
  refine (impl_EndedBy (⟨pts0, l0⟩ : Pl) _ _ l1 _ (T.out.base (Nat.zero_le _)) (S.out.base (Nat.zero_le _)) (by omega)).mono ?_
  rintro e w22 ⟨vG2, rfl, hG2, hb22⟩
  clear rcA0 rzA0 rlA0 rcXb rzXb rlXb
  have A0 := A0.ext hb22
  have Xb := Xb.ext hb22
  have W := Lib.hid (W.out.ext hb22)
  have G := Lib.hid (G.out.ext hb22)
  have T := Lib.hid (T.out.ext hb22)
  have S := Lib.hid (S.out.ext hb22)
  have E := ext_trans E hb22
  have qw22 := (hb22).size
  clear hb22
  obtain ⟨aG2, cG2, rfl, -⟩ := hG2.open
  have G2 := Lib.hid hG2
  clear hG2
  have BG2 := Lib.hid G2.out.lt
  rw [← hP.out] at G2 BG2 ⊢
  rw [← hM.out] at G2 BG2 ⊢
  rw [← hok.out]
  clear T BT S BS
  obtain ⟨rcA0, rzA0⟩ := (A0).rules; have rlA0 := (A0).lt
  obtain ⟨rcXb, rzXb⟩ := (Xb).rules; have rlXb := (Xb).lt
  go_wp2_with fail
  refine (laws_eqHappeningS _ _ P P _ (G2.out.base (Nat.zero_le _)) (W.out.base (Nat.zero_le _))).mono ?_
  rintro e w23 ⟨rfl, hb23⟩
  clear rcA0 rzA0 rlA0 rcXb rzXb rlXb
  have A0 := A0.ext hb23
  have Xb := Xb.ext hb23
  have W := Lib.hid (W.out.ext hb23)
  have G := Lib.hid (G.out.ext hb23)
  have G2 := Lib.hid (G2.out.ext hb23)
  have E := ext_trans E hb23
  have qw23 := (hb23).size
  clear hb23
  rw [decide_eq_true rfl]
  obtain ⟨rcA0, rzA0⟩ := (A0).rules; have rlA0 := (A0).lt
  obtain ⟨rcXb, rzXb⟩ := (Xb).rules; have rlXb := (Xb).lt
  go_wp2_with fail
  refine (laws_heldHappeningS _ M 1 _ (G.out.base (Nat.zero_le _)) (by omega) (by omega) (by omega)).mono ?_
  rintro e w24 ⟨rfl, hb24⟩
  clear rcA0 rzA0 rlA0 rcXb rzXb rlXb
  have A0 := A0.ext hb24
  have Xb := Xb.ext hb24
  have W := Lib.hid (W.out.ext hb24)
  have G := Lib.hid (G.out.ext hb24)
  have G2 := Lib.hid (G2.out.ext hb24)
  have E := ext_trans E hb24
  have qw24 := (hb24).size
  clear hb24
  obtain ⟨rcA0, rzA0⟩ := (A0).rules; have rlA0 := (A0).lt
  obtain ⟨rcXb, rzXb⟩ := (Xb).rules; have rlXb := (Xb).lt
  go_wp2_with fail
  go_ret
  exact ⟨rfl, E⟩
end Go.Proofs.Ytffcfambgcaikaa
