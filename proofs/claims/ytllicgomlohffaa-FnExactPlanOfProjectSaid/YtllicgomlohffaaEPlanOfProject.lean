/- The walk of FnExactPlanOfProject: it returns true, whatever project came in. No condition. -/
import Derived.Test.YtllicgomlohffaaPlanProjS
import Derived.Test.YtllicgomlohffaaLawInts
import Derived.Test.YtllicgomlohffaaLawPlan
import Derived.Test.YtllicgomlohffaaPlanOut
namespace Go.Proofs.Ytllicgomlohffaa
open Go.RowKit
set_option linter.unusedVariables false
set_option linter.unusedSimpArgs false
set_option maxRecDepth 100000 in
set_option maxHeartbeats 8000000 in
theorem walk_ExactPlanOfProject (a0 : Option Addr) (n0 cap0 : Nat) (l0 : List Int) (c0 : Option Addr) (m0 cb0 : Nat) (t0 : List Int) (w : World) (h0 : AInts w a0 n0 cap0 l0) (k0 : AInts w c0 m0 cb0 t0) :
    Calls Try.prog 13 #[.agg #[.slice a0 n0 cap0, .slice c0 m0 cb0]] w fun e w' => e = .returned (.bool true) ∧ Below w.heap.size w w' := by
  obtain ⟨hl0, hcap0, hmax0, -⟩ := id h0
  obtain ⟨kl0, kcap0, kmax0, -⟩ := id k0
  have H := Lib.hid h0; have K := Lib.hid k0
  have HL := Lib.hid hl0; have KL := Lib.hid kl0
  clear h0 k0 hl0 kl0
  by_cases hbig : (1048576 : Int) - ((n0 + m0 : Nat) : Int) < 0
  · have Hs := Lib.hid (szI_neg hbig)
    go_enter Try.func13, Try.ntmps13
    go_wp2_with fail
    obtain ⟨w1, hw1, A0, hs1, hb1⟩ := one_box w #[.slice a0 n0 cap0, .slice c0 m0 cb0] 24
    rw [← hw1.out]
    have E := hb1
    clear hb1
    obtain ⟨rcA0, rzA0⟩ := (A0).rules; have rlA0 := (A0).lt
    go_wp2_with fail
    refine (laws_szProject a0 n0 cap0 c0 m0 cb0 _ _ (by omega) (by omega) (by omega) (by omega)).mono ?_
    rintro e w2 ⟨rfl, hb2⟩
    clear rcA0 rzA0 rlA0
    have A0 := A0.ext hb2
    have E := ext_trans E hb2
    clear hb2
    rw [Hs.out]
    obtain ⟨rcA0, rzA0⟩ := (A0).rules; have rlA0 := (A0).lt
    go_wp2_with fail
    go_ret
    exact ⟨rfl, E⟩
  have Hs := Lib.hid (szI_pos hbig)
  have hn0 : n0 ≤ 1048576 := by omega
  have hm0 : m0 ≤ 1048576 := by omega
  go_enter Try.func13, Try.ntmps13
  go_wp2_with fail
  obtain ⟨w1, hw1, A0, hs1, hb1⟩ := one_box w #[.slice a0 n0 cap0, .slice c0 m0 cb0] 24
  rw [← hw1.out]
  have E := hb1
  have qw1 := (hb1).size
  clear hb1
  obtain ⟨rcA0, rzA0⟩ := (A0).rules; have rlA0 := (A0).lt
  go_wp2_with fail
  refine (laws_szProject a0 n0 cap0 c0 m0 cb0 _ _ (by omega) (by omega) (by omega) (by omega)).mono ?_
  rintro e w2 ⟨rfl, hb2⟩
  clear rcA0 rzA0 rlA0
  have A0 := A0.ext hb2
  have E := ext_trans E hb2
  have qw2 := (hb2).size
  clear hb2
  rw [Hs.out]
  obtain ⟨rcA0, rzA0⟩ := (A0).rules; have rlA0 := (A0).lt
  go_wp2_with fail
  obtain ⟨p, hp⟩ : ∃ p : Pj, Hid (p = ⟨l0, t0⟩) := ⟨_, rfl⟩
  have hpl : Hid (p.lo = l0) := by rw [hp.out]; exact Lib.hid rfl
  have hpt : Hid (p.af = t0) := by rw [hp.out]; exact Lib.hid rfl
  obtain ⟨P, hP⟩ : ∃ P : Pl, Hid (P = p.plan) := ⟨_, rfl⟩
  obtain ⟨bP, hbP⟩ : ∃ b : Bool, Hid (b = p.planOk) := ⟨_, rfl⟩
  have hPl : P.bs.length ≤ 2000000 := by rw [hP.out]; exact plan_len2 p
  refine (laws_toProject a0 n0 cap0 l0 c0 m0 cb0 t0 _ (H.out.ext E) (K.out.ext E) hn0 hm0).mono ?_
  rintro e w3 ⟨vT1, vT2, rfl, hT1, hT2, hdT1, hb3⟩
  clear rcA0 rzA0 rlA0
  have A0 := A0.ext hb3
  have E := ext_trans E hb3
  have qw3 := (hb3).size
  clear hb3
  obtain ⟨aT1, cT1, rfl, -⟩ := hT1.open
  have T1 := Lib.hid hT1
  clear hT1
  have BT1 := Lib.hid T1.out.lt
  obtain ⟨aT2, cT2, rfl, -⟩ := hT2.open
  have T2 := Lib.hid hT2
  clear hT2
  have BT2 := Lib.hid T2.out.lt
  obtain ⟨rcA0, rzA0⟩ := (A0).rules; have rlA0 := (A0).lt
  go_wp2_with fail
  have DT1 := Lib.hid hdT1
  clear hdT1
  refine ((show Calls Try.prog 41 #[.agg #[.slice aT1 l0.length cT1, .slice aT2 t0.length cT2]] _ (RetPlanB _ P bP) by rw [hP.out, hbP.out]; exact spec_PlanOfProject p _ _ _ (by rw [hpl.out]; exact T1.out.base (Nat.zero_le _)) (by rw [hpt.out]; exact T2.out.base (Nat.zero_le _)))).mono ?_
  rintro e w4 ⟨vW, rfl, hW, hb4⟩
  clear rcA0 rzA0 rlA0
  have A0 := A0.ext hb4
  have T1 := Lib.hid (T1.out.ext hb4)
  have T2 := Lib.hid (T2.out.ext hb4)
  have E := ext_trans E hb4
  have qw4 := (hb4).size
  clear hb4
  obtain ⟨aW, cW, rfl, -⟩ := hW.open
  have W := Lib.hid hW
  clear hW
  have BW := Lib.hid W.out.lt
  obtain ⟨rcA0, rzA0⟩ := (A0).rules; have rlA0 := (A0).lt
  go_wp2_with fail
  obtain ⟨w5, hw5, Wb, hs5, hb5⟩ := one_box w4 #[.int .i64 P.pts, .slice aW P.bs.length cW] 44
  rw [← hw5.out]
  clear rcA0 rzA0 rlA0
  have A0 := A0.ext hb5
  have T1 := Lib.hid (T1.out.ext hb5)
  have T2 := Lib.hid (T2.out.ext hb5)
  have W := Lib.hid (W.out.ext hb5)
  have E := ext_trans E hb5
  have qw5 := (hb5).size
  clear hb5
  obtain ⟨rcA0, rzA0⟩ := (A0).rules; have rlA0 := (A0).lt
  obtain ⟨rcWb, rzWb⟩ := (Wb).rules; have rlWb := (Wb).lt
  go_wp2_with fail
  clear T1 T2 BT1 BT2
  refine (laws_toProject a0 n0 cap0 l0 c0 m0 cb0 t0 _ (H.out.ext E) (K.out.ext E) hn0 hm0).mono ?_
  rintro e w6 ⟨vX1, vX2, rfl, hX1, hX2, hdX1, hb6⟩
  clear rcA0 rzA0 rlA0 rcWb rzWb rlWb
  have A0 := A0.ext hb6
  have Wb := Wb.ext hb6
  have W := Lib.hid (W.out.ext hb6)
  have E := ext_trans E hb6
  have qw6 := (hb6).size
  clear hb6
  obtain ⟨aX1, cX1, rfl, -⟩ := hX1.open
  have X1 := Lib.hid hX1
  clear hX1
  have BX1 := Lib.hid X1.out.lt
  obtain ⟨aX2, cX2, rfl, -⟩ := hX2.open
  have X2 := Lib.hid hX2
  clear hX2
  have BX2 := Lib.hid X2.out.lt
  obtain ⟨rcA0, rzA0⟩ := (A0).rules; have rlA0 := (A0).lt
  obtain ⟨rcWb, rzWb⟩ := (Wb).rules; have rlWb := (Wb).lt
  have DX1 := Lib.hid hdX1
  clear hdX1
  go_wp2_with fail
  obtain ⟨w7, hw7, Xb, hs7, hb7⟩ := one_box w6 #[.slice aX1 l0.length cX1, .slice aX2 t0.length cX2] 27
  rw [← hw7.out]
  clear rcA0 rzA0 rlA0 rcWb rzWb rlWb
  have A0 := A0.ext hb7
  have Wb := Wb.ext hb7
  have W := Lib.hid (W.out.ext hb7)
  have X1 := Lib.hid (X1.out.ext hb7)
  have X2 := Lib.hid (X2.out.ext hb7)
  have E := ext_trans E hb7
  have qw7 := (hb7).size
  clear hb7
  obtain ⟨rcA0, rzA0⟩ := (A0).rules; have rlA0 := (A0).lt
  obtain ⟨rcWb, rzWb⟩ := (Wb).rules; have rlWb := (Wb).lt
  obtain ⟨rcXb, rzXb⟩ := (Xb).rules; have rlXb := (Xb).lt
  go_wp2_with fail
  refine ((show Calls Try.prog 42 #[.agg #[.slice aX1 l0.length cX1, .slice aX2 t0.length cX2]] _ (RetPlanB _ P bP) by rw [hP.out, hbP.out]; exact impl_PlanOfProject p _ _ _ (by rw [hpl.out]; exact X1.out.base (Nat.zero_le _)) (by rw [hpt.out]; exact X2.out.base (Nat.zero_le _)))).mono ?_
  rintro e w8 ⟨vG, rfl, hG, hb8⟩
  clear rcA0 rzA0 rlA0 rcWb rzWb rlWb rcXb rzXb rlXb
  have A0 := A0.ext hb8
  have Wb := Wb.ext hb8
  have Xb := Xb.ext hb8
  have W := Lib.hid (W.out.ext hb8)
  have X1 := Lib.hid (X1.out.ext hb8)
  have X2 := Lib.hid (X2.out.ext hb8)
  have E := ext_trans E hb8
  have qw8 := (hb8).size
  clear hb8
  obtain ⟨aG, cG, rfl, -⟩ := hG.open
  have G := Lib.hid hG
  clear hG
  have BG := Lib.hid G.out.lt
  obtain ⟨rcA0, rzA0⟩ := (A0).rules; have rlA0 := (A0).lt
  obtain ⟨rcWb, rzWb⟩ := (Wb).rules; have rlWb := (Wb).lt
  obtain ⟨rcXb, rzXb⟩ := (Xb).rules; have rlXb := (Xb).lt
  go_wp2_with fail
  obtain ⟨w9, hw9, Gb, hs9, hb9⟩ := one_box w8 #[.int .i64 P.pts, .slice aG P.bs.length cG] 44
  rw [← hw9.out]
  clear rcA0 rzA0 rlA0 rcWb rzWb rlWb rcXb rzXb rlXb
  have A0 := A0.ext hb9
  have Wb := Wb.ext hb9
  have Xb := Xb.ext hb9
  have W := Lib.hid (W.out.ext hb9)
  have X1 := Lib.hid (X1.out.ext hb9)
  have X2 := Lib.hid (X2.out.ext hb9)
  have G := Lib.hid (G.out.ext hb9)
  have E := ext_trans E hb9
  have qw9 := (hb9).size
  clear hb9
  obtain ⟨rcA0, rzA0⟩ := (A0).rules; have rlA0 := (A0).lt
  obtain ⟨rcWb, rzWb⟩ := (Wb).rules; have rlWb := (Wb).lt
  obtain ⟨rcXb, rzXb⟩ := (Xb).rules; have rlXb := (Xb).lt
  obtain ⟨rcGb, rzGb⟩ := (Gb).rules; have rlGb := (Gb).lt
  go_wp2_with fail
  refine (laws_eqPlan P P _ _ _ (G.out.base (Nat.zero_le _)) (W.out.base (Nat.zero_le _))).mono ?_
  rintro e w10 ⟨rfl, hb10⟩
  clear rcA0 rzA0 rlA0 rcWb rzWb rlWb rcXb rzXb rlXb rcGb rzGb rlGb
  have A0 := A0.ext hb10
  have Wb := Wb.ext hb10
  have Xb := Xb.ext hb10
  have Gb := Gb.ext hb10
  have W := Lib.hid (W.out.ext hb10)
  have X1 := Lib.hid (X1.out.ext hb10)
  have X2 := Lib.hid (X2.out.ext hb10)
  have G := Lib.hid (G.out.ext hb10)
  have E := ext_trans E hb10
  have qw10 := (hb10).size
  clear hb10
  rw [decide_eq_true rfl]
  have hbb : (bP != bP) = false := by simp
  obtain ⟨rcA0, rzA0⟩ := (A0).rules; have rlA0 := (A0).lt
  obtain ⟨rcWb, rzWb⟩ := (Wb).rules; have rlWb := (Wb).lt
  obtain ⟨rcXb, rzXb⟩ := (Xb).rules; have rlXb := (Xb).lt
  obtain ⟨rcGb, rzGb⟩ := (Gb).rules; have rlGb := (Gb).lt
  go_wp2_with fail
  go_region_held3 (fun w' => w'.cell? ⟨w.heap.size, 0, none⟩ = some (Value.slice a0 n0 cap0) ∧ w'.cell? ⟨w.heap.size, 1, none⟩ = some (Value.slice c0 m0 cb0) ∧ w'.cell? ⟨w6.heap.size, 0, none⟩ = some (Value.slice aX1 l0.length cX1) ∧ w'.cell? ⟨w6.heap.size, 1, none⟩ = some (Value.slice aX2 t0.length cX2))
    (first | exact ⟨A0.cell0 rfl, A0.cell0 rfl, Xb.cell0 rfl, Xb.cell0 rfl⟩ | exact ⟨A0a11.cell0 rfl, A0a11.cell0 rfl, Xba11.cell0 rfl, Xba11.cell0 rfl⟩ | exact ⟨A0b11.cell0 rfl, A0b11.cell0 rfl, Xbb11.cell0 rfl, Xbb11.cell0 rfl⟩)
    (first | (go_at_call 16
              refine (laws_toProject a0 n0 cap0 l0 c0 m0 cb0 t0 _ (H.out.ext (ext_trans E (ext_drew (ext_refl w10)))) (K.out.ext (ext_trans E (ext_drew (ext_refl w10)))) hn0 hm0).mono ?_
              rintro e wa11 ⟨vY1, vY2, rfl, hY1, hY2, hdY, hba11⟩
              obtain ⟨aY1, cY1, rfl, -⟩ := hY1.open
              obtain ⟨aY2, cY2, rfl, -⟩ := hY2.open
              have A0a11 := A0.ext (ext_trans (ext_drew (ext_refl w10)) hba11)
              have Xba11 := Xb.ext (ext_trans (ext_drew (ext_refl w10)) hba11)
              have Y1a11 := hY1
              have Y2a11 := hY2
              have Ha11 := ext_trans (ext_drew (ext_refl w10)) hba11)
           | (go_at_call 18
              refine (laws_eqProject _ _ _ _ l0 t0 l0 t0 _ ((X1.out.ext Ha11).base (Nat.zero_le _)) ((X2.out.ext Ha11).base (Nat.zero_le _)) (Y1a11.base (Nat.zero_le _)) (Y2a11.base (Nat.zero_le _))).mono ?_
              rintro e wb11 ⟨rfl, hbb11⟩
              rw [show (decide (l0 = l0) && decide (t0 = t0)) = true by simp]
              have A0b11 := A0.ext (ext_trans Ha11 hbb11)
              have Xbb11 := Xb.ext (ext_trans Ha11 hbb11)
              have Y1b11 := Y1a11.ext hbb11
              have Y2b11 := Y2a11.ext hbb11
              have Hb11 := ext_trans Ha11 hbb11))
  clear rcA0 rzA0 rlA0 rcWb rzWb rlWb rcXb rzXb rlXb rcGb rzGb rlGb
  have A0 := A0.ext Hb11
  have Wb := Wb.ext Hb11
  have Xb := Xb.ext Hb11
  have Gb := Gb.ext Hb11
  have W := Lib.hid (W.out.ext Hb11)
  have X1 := Lib.hid (X1.out.ext Hb11)
  have X2 := Lib.hid (X2.out.ext Hb11)
  have G := Lib.hid (G.out.ext Hb11)
  have E := ext_trans E Hb11
  have Y1 := Lib.hid Y1b11
  have Y2 := Lib.hid Y2b11
  have qwb11 := (Hb11).size
  clear A0a11 Xba11 A0b11 Xbb11 hba11 hbb11 Ha11 Hb11
  obtain ⟨rcA0, rzA0⟩ := (A0).rules; have rlA0 := (A0).lt
  obtain ⟨rcWb, rzWb⟩ := (Wb).rules; have rlWb := (Wb).lt
  obtain ⟨rcXb, rzXb⟩ := (Xb).rules; have rlXb := (Xb).lt
  obtain ⟨rcGb, rzGb⟩ := (Gb).rules; have rlGb := (Gb).lt
  clear rcA0 rzA0 rlA0 rcWb rzWb rlWb rcXb rzXb rlXb rcGb rzGb rlGb
  obtain ⟨rcA0, rzA0⟩ := (A0).rules; have rlA0 := (A0).lt
  obtain ⟨rcWb, rzWb⟩ := (Wb).rules; have rlWb := (Wb).lt
  obtain ⟨rcXb, rzXb⟩ := (Xb).rules; have rlXb := (Xb).lt
  obtain ⟨rcGb, rzGb⟩ := (Gb).rules; have rlGb := (Gb).lt
  go_wp2_with fail
  refine (laws_markProject _ _ l0 t0 _ 1 _ (X1.out.base (Nat.zero_le _)) (X2.out.base (Nat.zero_le _)) DX1.out (by omega) (by omega) (by have := HL.out; omega) (by have := KL.out; omega)).mono ?_
  rintro e w12 ⟨⟨kx, rfl, hkx⟩, wm, hga, hgb⟩
  clear rcA0 rzA0 rlA0 rcWb rzWb rlWb rcXb rzXb rlXb rcGb rzGb rlGb
  have A0 := A0.grown hga (fun e => by have := BX1.out _ e.symm; omega)
  have Wb := Wb.grown hga (fun e => by have := BX1.out _ e.symm; omega)
  have Xb := Xb.grown hga (fun e => by have := BX1.out _ e.symm; omega)
  have Gb := Gb.grown hga (fun e => by have := BX1.out _ e.symm; omega)
  have W := Lib.hid (W.out.far hga (fun q hq e => by have := BW.out _ hq; have := BX1.out _ e; omega))
  have G := Lib.hid (G.out.far hga (fun q hq e => by have := BG.out _ hq; have := BX1.out _ e; omega))
  have E := ext_grown E hga (fun q hq => by have := BX1.out q hq; omega)
  have qwm := (hga).size
  have A0 := A0.grown hgb (fun e => by have := BX2.out _ e.symm; omega)
  have Wb := Wb.grown hgb (fun e => by have := BX2.out _ e.symm; omega)
  have Xb := Xb.grown hgb (fun e => by have := BX2.out _ e.symm; omega)
  have Gb := Gb.grown hgb (fun e => by have := BX2.out _ e.symm; omega)
  have W := Lib.hid (W.out.far hgb (fun q hq e => by have := BW.out _ hq; have := BX2.out _ e; omega))
  have G := Lib.hid (G.out.far hgb (fun q hq e => by have := BG.out _ hq; have := BX2.out _ e; omega))
  have E := ext_grown E hgb (fun q hq => by have := BX2.out q hq; omega)
  have qw12 := (hgb).size
  clear hga hgb
  obtain ⟨rcA0, rzA0⟩ := (A0).rules; have rlA0 := (A0).lt
  obtain ⟨rcWb, rzWb⟩ := (Wb).rules; have rlWb := (Wb).lt
  obtain ⟨rcXb, rzXb⟩ := (Xb).rules; have rlXb := (Xb).lt
  obtain ⟨rcGb, rzGb⟩ := (Gb).rules; have rlGb := (Gb).lt
  go_wp2_with fail
  refine (laws_eqPlan P P _ _ _ (G.out.base (Nat.zero_le _)) (W.out.base (Nat.zero_le _))).mono ?_
  rintro e w13 ⟨rfl, hb13⟩
  clear rcA0 rzA0 rlA0 rcWb rzWb rlWb rcXb rzXb rlXb rcGb rzGb rlGb
  have A0 := A0.ext hb13
  have Wb := Wb.ext hb13
  have Xb := Xb.ext hb13
  have Gb := Gb.ext hb13
  have W := Lib.hid (W.out.ext hb13)
  have G := Lib.hid (G.out.ext hb13)
  have E := ext_trans E hb13
  have qw13 := (hb13).size
  clear hb13
  rw [decide_eq_true rfl]
  have hbb : (bP != bP) = false := by simp
  obtain ⟨rcA0, rzA0⟩ := (A0).rules; have rlA0 := (A0).lt
  obtain ⟨rcWb, rzWb⟩ := (Wb).rules; have rlWb := (Wb).lt
  obtain ⟨rcXb, rzXb⟩ := (Xb).rules; have rlXb := (Xb).lt
  obtain ⟨rcGb, rzGb⟩ := (Gb).rules; have rlGb := (Gb).lt
  go_wp2_with fail
  have nzGb := own_not_box G.out Gb
  refine (laws_markPlan P.pts _ P.bs _ 1 _ G.out (by omega) (by omega) (by omega)).mono ?_
  rintro e w14 ⟨rfl, hG, hg14⟩
  clear rcA0 rzA0 rlA0 rcWb rzWb rlWb rcXb rzXb rlXb rcGb rzGb rlGb
  have A0 := A0.grown hg14 (fun e => by have := BG.out _ e.symm; omega)
  have Wb := Wb.grown hg14 (fun e => by have := BG.out _ e.symm; omega)
  have Xb := Xb.grown hg14 (fun e => by have := BG.out _ e.symm; omega)
  have Gb := Gb.grown hg14 nzGb
  have W := Lib.hid (W.out.far hg14 (fun q hq e => by have := BW.out _ hq; have := BG.out _ e; omega))
  have E := ext_grown E hg14 (fun q hq => by have := BG.out q hq; omega)
  have qw14 := (hg14).size
  clear hg14
  have G := Lib.hid hG
  clear hG
  obtain ⟨rcA0, rzA0⟩ := (A0).rules; have rlA0 := (A0).lt
  obtain ⟨rcWb, rzWb⟩ := (Wb).rules; have rlWb := (Wb).lt
  obtain ⟨rcXb, rzXb⟩ := (Xb).rules; have rlXb := (Xb).lt
  obtain ⟨rcGb, rzGb⟩ := (Gb).rules; have rlGb := (Gb).lt
  go_wp2_with fail
  refine (laws_heldPlan P.pts _ P.bs.length 1 _ (G.out.base (Nat.zero_le _)) (by omega) (by omega) (by omega)).mono ?_
  rintro e w15 ⟨rfl, hb15⟩
  clear rcA0 rzA0 rlA0 rcWb rzWb rlWb rcXb rzXb rlXb rcGb rzGb rlGb
  have A0 := A0.ext hb15
  have Wb := Wb.ext hb15
  have Xb := Xb.ext hb15
  have Gb := Gb.ext hb15
  have W := Lib.hid (W.out.ext hb15)
  have G := Lib.hid (G.out.ext hb15)
  have E := ext_trans E hb15
  have qw15 := (hb15).size
  clear hb15
  obtain ⟨rcA0, rzA0⟩ := (A0).rules; have rlA0 := (A0).lt
  obtain ⟨rcWb, rzWb⟩ := (Wb).rules; have rlWb := (Wb).lt
  obtain ⟨rcXb, rzXb⟩ := (Xb).rules; have rlXb := (Xb).lt
  obtain ⟨rcGb, rzGb⟩ := (Gb).rules; have rlGb := (Gb).lt
  go_wp2_with fail
  refine (laws_toProject a0 n0 cap0 l0 c0 m0 cb0 t0 _ (H.out.ext E) (K.out.ext E) hn0 hm0).mono ?_
  rintro e w16 ⟨vT1, vT2, rfl, hT1, hT2, hdT1, hb16⟩
  clear rcA0 rzA0 rlA0 rcWb rzWb rlWb rcXb rzXb rlXb rcGb rzGb rlGb
  have A0 := A0.ext hb16
  have Wb := Wb.ext hb16
  have Xb := Xb.ext hb16
  have Gb := Gb.ext hb16
  have W := Lib.hid (W.out.ext hb16)
  have G := Lib.hid (G.out.ext hb16)
  have E := ext_trans E hb16
  have qw16 := (hb16).size
  clear hb16
  obtain ⟨aT1, cT1, rfl, -⟩ := hT1.open
  have T1 := Lib.hid hT1
  clear hT1
  have BT1 := Lib.hid T1.out.lt
  obtain ⟨aT2, cT2, rfl, -⟩ := hT2.open
  have T2 := Lib.hid hT2
  clear hT2
  have BT2 := Lib.hid T2.out.lt
  obtain ⟨rcA0, rzA0⟩ := (A0).rules; have rlA0 := (A0).lt
  obtain ⟨rcWb, rzWb⟩ := (Wb).rules; have rlWb := (Wb).lt
  obtain ⟨rcXb, rzXb⟩ := (Xb).rules; have rlXb := (Xb).lt
  obtain ⟨rcGb, rzGb⟩ := (Gb).rules; have rlGb := (Gb).lt
  go_wp2_with fail
  have DT1 := Lib.hid hdT1
  clear hdT1
  refine ((show Calls Try.prog 42 #[.agg #[.slice aT1 l0.length cT1, .slice aT2 t0.length cT2]] _ (RetPlanB _ P bP) by rw [hP.out, hbP.out]; exact impl_PlanOfProject p _ _ _ (by rw [hpl.out]; exact T1.out.base (Nat.zero_le _)) (by rw [hpt.out]; exact T2.out.base (Nat.zero_le _)))).mono ?_
  rintro e w17 ⟨vG2, rfl, hG2, hb17⟩
  clear rcA0 rzA0 rlA0 rcWb rzWb rlWb rcXb rzXb rlXb rcGb rzGb rlGb
  have A0 := A0.ext hb17
  have Wb := Wb.ext hb17
  have Xb := Xb.ext hb17
  have Gb := Gb.ext hb17
  have W := Lib.hid (W.out.ext hb17)
  have G := Lib.hid (G.out.ext hb17)
  have T1 := Lib.hid (T1.out.ext hb17)
  have T2 := Lib.hid (T2.out.ext hb17)
  have E := ext_trans E hb17
  have qw17 := (hb17).size
  clear hb17
  obtain ⟨aG2, cG2, rfl, -⟩ := hG2.open
  have G2 := Lib.hid hG2
  clear hG2
  have BG2 := Lib.hid G2.out.lt
  obtain ⟨rcA0, rzA0⟩ := (A0).rules; have rlA0 := (A0).lt
  obtain ⟨rcWb, rzWb⟩ := (Wb).rules; have rlWb := (Wb).lt
  obtain ⟨rcXb, rzXb⟩ := (Xb).rules; have rlXb := (Xb).lt
  obtain ⟨rcGb, rzGb⟩ := (Gb).rules; have rlGb := (Gb).lt
  go_wp2_with fail
  obtain ⟨w18, hw18, Hb, hs18, hb18⟩ := one_box w17 #[.int .i64 P.pts, .slice aG2 P.bs.length cG2] 44
  rw [← hw18.out]
  clear rcA0 rzA0 rlA0 rcWb rzWb rlWb rcXb rzXb rlXb rcGb rzGb rlGb
  have A0 := A0.ext hb18
  have Wb := Wb.ext hb18
  have Xb := Xb.ext hb18
  have Gb := Gb.ext hb18
  have W := Lib.hid (W.out.ext hb18)
  have G := Lib.hid (G.out.ext hb18)
  have T1 := Lib.hid (T1.out.ext hb18)
  have T2 := Lib.hid (T2.out.ext hb18)
  have G2 := Lib.hid (G2.out.ext hb18)
  have E := ext_trans E hb18
  have qw18 := (hb18).size
  clear hb18
  obtain ⟨rcA0, rzA0⟩ := (A0).rules; have rlA0 := (A0).lt
  obtain ⟨rcWb, rzWb⟩ := (Wb).rules; have rlWb := (Wb).lt
  obtain ⟨rcXb, rzXb⟩ := (Xb).rules; have rlXb := (Xb).lt
  obtain ⟨rcGb, rzGb⟩ := (Gb).rules; have rlGb := (Gb).lt
  obtain ⟨rcHb, rzHb⟩ := (Hb).rules; have rlHb := (Hb).lt
  go_wp2_with fail
  clear T1 T2 BT1 BT2
  refine (laws_eqPlan P P _ _ _ (G2.out.base (Nat.zero_le _)) (W.out.base (Nat.zero_le _))).mono ?_
  rintro e w19 ⟨rfl, hb19⟩
  clear rcA0 rzA0 rlA0 rcWb rzWb rlWb rcXb rzXb rlXb rcGb rzGb rlGb rcHb rzHb rlHb
  have A0 := A0.ext hb19
  have Wb := Wb.ext hb19
  have Xb := Xb.ext hb19
  have Gb := Gb.ext hb19
  have Hb := Hb.ext hb19
  have W := Lib.hid (W.out.ext hb19)
  have G := Lib.hid (G.out.ext hb19)
  have G2 := Lib.hid (G2.out.ext hb19)
  have E := ext_trans E hb19
  have qw19 := (hb19).size
  clear hb19
  rw [decide_eq_true rfl]
  have hbb : (bP != bP) = false := by simp
  obtain ⟨rcA0, rzA0⟩ := (A0).rules; have rlA0 := (A0).lt
  obtain ⟨rcWb, rzWb⟩ := (Wb).rules; have rlWb := (Wb).lt
  obtain ⟨rcXb, rzXb⟩ := (Xb).rules; have rlXb := (Xb).lt
  obtain ⟨rcGb, rzGb⟩ := (Gb).rules; have rlGb := (Gb).lt
  obtain ⟨rcHb, rzHb⟩ := (Hb).rules; have rlHb := (Hb).lt
  go_wp2_with fail
  refine (laws_heldPlan P.pts _ P.bs.length 1 _ (G.out.base (Nat.zero_le _)) (by omega) (by omega) (by omega)).mono ?_
  rintro e w20 ⟨rfl, hb20⟩
  clear rcA0 rzA0 rlA0 rcWb rzWb rlWb rcXb rzXb rlXb rcGb rzGb rlGb rcHb rzHb rlHb
  have A0 := A0.ext hb20
  have Wb := Wb.ext hb20
  have Xb := Xb.ext hb20
  have Gb := Gb.ext hb20
  have Hb := Hb.ext hb20
  have W := Lib.hid (W.out.ext hb20)
  have G := Lib.hid (G.out.ext hb20)
  have G2 := Lib.hid (G2.out.ext hb20)
  have E := ext_trans E hb20
  have qw20 := (hb20).size
  clear hb20
  obtain ⟨rcA0, rzA0⟩ := (A0).rules; have rlA0 := (A0).lt
  obtain ⟨rcWb, rzWb⟩ := (Wb).rules; have rlWb := (Wb).lt
  obtain ⟨rcXb, rzXb⟩ := (Xb).rules; have rlXb := (Xb).lt
  obtain ⟨rcGb, rzGb⟩ := (Gb).rules; have rlGb := (Gb).lt
  obtain ⟨rcHb, rzHb⟩ := (Hb).rules; have rlHb := (Hb).lt
  go_wp2_with fail
  go_ret
  exact ⟨rfl, E⟩
end Go.Proofs.Ytllicgomlohffaa
