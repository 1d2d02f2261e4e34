/- The walk of FnExactChainOf: it returns true, whatever project came in. No condition. -/
import Derived.Test.YtllicgomlohffaaChainS
import Derived.Test.YtllicgomlohffaaLawInts
namespace Go.Proofs.Ytllicgomlohffaa
open Go.RowKit
set_option linter.unusedVariables false
set_option linter.unusedSimpArgs false
set_option maxRecDepth 100000 in
set_option maxHeartbeats 8000000 in
theorem walk_ExactChainOf (a0 : Option Addr) (n0 cap0 : Nat) (l0 : List Int) (c0 : Option Addr) (m0 cb0 : Nat) (t0 : List Int) (w : World) (h0 : AInts w a0 n0 cap0 l0) (k0 : AInts w c0 m0 cb0 t0) :
    Calls Try.prog 11 #[.agg #[.slice a0 n0 cap0, .slice c0 m0 cb0]] w fun e w' => e = .returned (.bool true) ∧ Below w.heap.size w w' := by
  obtain ⟨hl0, hcap0, hmax0, -⟩ := id h0
  obtain ⟨kl0, kcap0, kmax0, -⟩ := id k0
  have H := Lib.hid h0; have K := Lib.hid k0
  have HL := Lib.hid hl0; have KL := Lib.hid kl0
  clear h0 k0 hl0 kl0
  by_cases hbig : (1048576 : Int) - ((n0 + m0 : Nat) : Int) < 0
  · have Hs := Lib.hid (szI_neg hbig)
    go_enter Try.func11, Try.ntmps11
    go_wp2_with fail
    obtain ⟨w1, hw1, A0, hs1, hb1⟩ := one_box w #[.slice a0 n0 cap0, .slice c0 m0 cb0] 24
    rw [← hw1.out]
    have E := hb1
    clear hb1
    obtain ⟨rcA0, rzA0⟩ := (A0).rules; have rlA0 := (A0).lt
    go_wp2_with fail
    refine (laws_szProject a0 n0 cap0 c0 m0 cb0 _ _ (by omega) (by omega) (by omega) (by omega)).mono ?_
    rintro e w2 ⟨rfl, hb2⟩
    clear rcA0 rzA0 rlA0
    have A0 := A0.ext hb2
    have E := ext_trans E hb2
    clear hb2
    rw [Hs.out]
    obtain ⟨rcA0, rzA0⟩ := (A0).rules; have rlA0 := (A0).lt
    go_wp2_with fail
    go_ret
    exact ⟨rfl, E⟩
  have Hs := Lib.hid (szI_pos hbig)
  have hn0 : n0 ≤ 1048576 := by omega
  have hm0 : m0 ≤ 1048576 := by omega
  go_enter Try.func11, Try.ntmps11
  go_wp2_with fail
  obtain ⟨w1, hw1, A0, hs1, hb1⟩ := one_box w #[.slice a0 n0 cap0, .slice c0 m0 cb0] 24
  rw [← hw1.out]
  have E := hb1
  have qw1 := (hb1).size
  clear hb1
  obtain ⟨rcA0, rzA0⟩ := (A0).rules; have rlA0 := (A0).lt
  go_wp2_with fail
  refine (laws_szProject a0 n0 cap0 c0 m0 cb0 _ _ (by omega) (by omega) (by omega) (by omega)).mono ?_
  rintro e w2 ⟨rfl, hb2⟩
  clear rcA0 rzA0 rlA0
  have A0 := A0.ext hb2
  have E := ext_trans E hb2
  have qw2 := (hb2).size
  clear hb2
  rw [Hs.out]
  obtain ⟨rcA0, rzA0⟩ := (A0).rules; have rlA0 := (A0).lt
  go_wp2_with fail
  obtain ⟨p, hp⟩ : ∃ p : Pj, Hid (p = ⟨l0, t0⟩) := ⟨_, rfl⟩
  have hpl : Hid (p.lo = l0) := by rw [hp.out]; exact Lib.hid rfl
  have hpt : Hid (p.af = t0) := by rw [hp.out]; exact Lib.hid rfl
  refine (laws_toProject a0 n0 cap0 l0 c0 m0 cb0 t0 _ (H.out.ext E) (K.out.ext E) hn0 hm0).mono ?_
  rintro e w3 ⟨vT1, vT2, rfl, hT1, hT2, hdT1, hb3⟩
  clear rcA0 rzA0 rlA0
  have A0 := A0.ext hb3
  have E := ext_trans E hb3
  have qw3 := (hb3).size
  clear hb3
  obtain ⟨aT1, cT1, rfl, -⟩ := hT1.open
  have T1 := Lib.hid hT1
  clear hT1
  have BT1 := Lib.hid T1.out.lt
  obtain ⟨aT2, cT2, rfl, -⟩ := hT2.open
  have T2 := Lib.hid hT2
  clear hT2
  have BT2 := Lib.hid T2.out.lt
  obtain ⟨rcA0, rzA0⟩ := (A0).rules; have rlA0 := (A0).lt
  go_wp2_with fail
  have DT1 := Lib.hid hdT1
  clear hdT1
  obtain ⟨P, hP⟩ : ∃ P : List Int, Hid (P = ints p.chain) := ⟨_, rfl⟩
  have hPl : P.length ≤ 2000000 := by rw [hP.out]; have := chain_small p; omega
  refine ((show Calls Try.prog 37 #[.agg #[.slice aT1 l0.length cT1, .slice aT2 t0.length cT2]] _ (RetInts _ P) by rw [hP.out]; exact spec_ChainOf p _ _ _ (by rw [hpl.out]; exact T1.out.base (Nat.zero_le _)) (by rw [hpt.out]; exact T2.out.base (Nat.zero_le _)))).mono ?_
  rintro e w4 ⟨vW, rfl, hW, hb4⟩
  clear rcA0 rzA0 rlA0
  have A0 := A0.ext hb4
  have T1 := Lib.hid (T1.out.ext hb4)
  have T2 := Lib.hid (T2.out.ext hb4)
  have E := ext_trans E hb4
  have qw4 := (hb4).size
  clear hb4
  obtain ⟨aW, cW, rfl, -⟩ := hW.open
  have W := Lib.hid hW
  clear hW
  have BW := Lib.hid W.out.lt
  obtain ⟨rcA0, rzA0⟩ := (A0).rules; have rlA0 := (A0).lt
  go_wp2_with fail
  clear T1 T2 BT1 BT2 DT1
  refine (laws_toProject a0 n0 cap0 l0 c0 m0 cb0 t0 _ (H.out.ext E) (K.out.ext E) hn0 hm0).mono ?_
  rintro e w5 ⟨vX1, vX2, rfl, hX1, hX2, hdX1, hb5⟩
  clear rcA0 rzA0 rlA0
  have A0 := A0.ext hb5
  have W := Lib.hid (W.out.ext hb5)
  have E := ext_trans E hb5
  have qw5 := (hb5).size
  clear hb5
  obtain ⟨aX1, cX1, rfl, -⟩ := hX1.open
  have X1 := Lib.hid hX1
  clear hX1
  have BX1 := Lib.hid X1.out.lt
  obtain ⟨aX2, cX2, rfl, -⟩ := hX2.open
  have X2 := Lib.hid hX2
  clear hX2
  have BX2 := Lib.hid X2.out.lt
  obtain ⟨rcA0, rzA0⟩ := (A0).rules; have rlA0 := (A0).lt
  have DX1 := Lib.hid hdX1
  clear hdX1
  go_wp2_with fail
  obtain ⟨w6, hw6, Xb, hs6, hb6⟩ := one_box w5 #[.slice aX1 l0.length cX1, .slice aX2 t0.length cX2] 27
  rw [← hw6.out]
  clear rcA0 rzA0 rlA0
  have A0 := A0.ext hb6
  have W := Lib.hid (W.out.ext hb6)
  have X1 := Lib.hid (X1.out.ext hb6)
  have X2 := Lib.hid (X2.out.ext hb6)
  have E := ext_trans E hb6
  have qw6 := (hb6).size
  clear hb6
  obtain ⟨rcA0, rzA0⟩ := (A0).rules; have rlA0 := (A0).lt
  obtain ⟨rcXb, rzXb⟩ := (Xb).rules; have rlXb := (Xb).lt
  go_wp2_with fail
  refine ((show Calls Try.prog 38 #[.agg #[.slice aX1 l0.length cX1, .slice aX2 t0.length cX2]] _ (RetInts _ P) by rw [hP.out]; exact impl_ChainOf p _ _ _ (by rw [hpl.out]; exact X1.out.base (Nat.zero_le _)) (by rw [hpt.out]; exact X2.out.base (Nat.zero_le _)))).mono ?_
  rintro e w7 ⟨vG, rfl, hG, hb7⟩
  clear rcA0 rzA0 rlA0 rcXb rzXb rlXb
  have A0 := A0.ext hb7
  have Xb := Xb.ext hb7
  have W := Lib.hid (W.out.ext hb7)
  have X1 := Lib.hid (X1.out.ext hb7)
  have X2 := Lib.hid (X2.out.ext hb7)
  have E := ext_trans E hb7
  have qw7 := (hb7).size
  clear hb7
  obtain ⟨aG, cG, rfl, -⟩ := hG.open
  have G := Lib.hid hG
  clear hG
  have BG := Lib.hid G.out.lt
  obtain ⟨rcA0, rzA0⟩ := (A0).rules; have rlA0 := (A0).lt
  obtain ⟨rcXb, rzXb⟩ := (Xb).rules; have rlXb := (Xb).lt
  go_wp2_with fail
  refine (laws_eqIntS _ _ P P _ (G.out.base (Nat.zero_le _)) (W.out.base (Nat.zero_le _))).mono ?_
  rintro e w8 ⟨rfl, hb8⟩
  clear rcA0 rzA0 rlA0 rcXb rzXb rlXb
  have A0 := A0.ext hb8
  have Xb := Xb.ext hb8
  have W := Lib.hid (W.out.ext hb8)
  have X1 := Lib.hid (X1.out.ext hb8)
  have X2 := Lib.hid (X2.out.ext hb8)
  have G := Lib.hid (G.out.ext hb8)
  have E := ext_trans E hb8
  have qw8 := (hb8).size
  clear hb8
  rw [decide_eq_true rfl]
  obtain ⟨rcA0, rzA0⟩ := (A0).rules; have rlA0 := (A0).lt
  obtain ⟨rcXb, rzXb⟩ := (Xb).rules; have rlXb := (Xb).lt
  go_wp2_with fail
  go_region_held3 (fun w' => w'.cell? ⟨w.heap.size, 0, none⟩ = some (Value.slice a0 n0 cap0) ∧ w'.cell? ⟨w.heap.size, 1, none⟩ = some (Value.slice c0 m0 cb0) ∧ w'.cell? ⟨w5.heap.size, 0, none⟩ = some (Value.slice aX1 l0.length cX1) ∧ w'.cell? ⟨w5.heap.size, 1, none⟩ = some (Value.slice aX2 t0.length cX2))
    (first | exact ⟨A0.cell0 rfl, A0.cell0 rfl, Xb.cell0 rfl, Xb.cell0 rfl⟩ | exact ⟨A0a9.cell0 rfl, A0a9.cell0 rfl, Xba9.cell0 rfl, Xba9.cell0 rfl⟩ | exact ⟨A0b9.cell0 rfl, A0b9.cell0 rfl, Xbb9.cell0 rfl, Xbb9.cell0 rfl⟩)
    (first | (go_at_call 16
              refine (laws_toProject a0 n0 cap0 l0 c0 m0 cb0 t0 _ (H.out.ext (ext_trans E (ext_drew (ext_refl w8)))) (K.out.ext (ext_trans E (ext_drew (ext_refl w8)))) hn0 hm0).mono ?_
              rintro e wa9 ⟨vY1, vY2, rfl, hY1, hY2, hdY, hba9⟩
              obtain ⟨aY1, cY1, rfl, -⟩ := hY1.open
              obtain ⟨aY2, cY2, rfl, -⟩ := hY2.open
              have A0a9 := A0.ext (ext_trans (ext_drew (ext_refl w8)) hba9)
              have Xba9 := Xb.ext (ext_trans (ext_drew (ext_refl w8)) hba9)
              have Y1a9 := hY1
              have Y2a9 := hY2
              have Ha9 := ext_trans (ext_drew (ext_refl w8)) hba9)
           | (go_at_call 18
              refine (laws_eqProject _ _ _ _ l0 t0 l0 t0 _ ((X1.out.ext Ha9).base (Nat.zero_le _)) ((X2.out.ext Ha9).base (Nat.zero_le _)) (Y1a9.base (Nat.zero_le _)) (Y2a9.base (Nat.zero_le _))).mono ?_
              rintro e wb9 ⟨rfl, hbb9⟩
              rw [show (decide (l0 = l0) && decide (t0 = t0)) = true by simp]
              have A0b9 := A0.ext (ext_trans Ha9 hbb9)
              have Xbb9 := Xb.ext (ext_trans Ha9 hbb9)
              have Y1b9 := Y1a9.ext hbb9
              have Y2b9 := Y2a9.ext hbb9
              have Hb9 := ext_trans Ha9 hbb9))
  clear rcA0 rzA0 rlA0 rcXb rzXb rlXb
  have A0 := A0.ext Hb9
  have Xb := Xb.ext Hb9
  have W := Lib.hid (W.out.ext Hb9)
  have X1 := Lib.hid (X1.out.ext Hb9)
  have X2 := Lib.hid (X2.out.ext Hb9)
  have G := Lib.hid (G.out.ext Hb9)
  have E := ext_trans E Hb9
  have Y1 := Lib.hid Y1b9
  have Y2 := Lib.hid Y2b9
  have qwb9 := (Hb9).size
  clear A0a9 Xba9 A0b9 Xbb9 hba9 hbb9 Ha9 Hb9
  obtain ⟨rcA0, rzA0⟩ := (A0).rules; have rlA0 := (A0).lt
  obtain ⟨rcXb, rzXb⟩ := (Xb).rules; have rlXb := (Xb).lt
  clear rcA0 rzA0 rlA0 rcXb rzXb rlXb
  obtain ⟨rcA0, rzA0⟩ := (A0).rules; have rlA0 := (A0).lt
  obtain ⟨rcXb, rzXb⟩ := (Xb).rules; have rlXb := (Xb).lt
  go_wp2_with fail
  refine (laws_markProject _ _ l0 t0 _ 1 _ (X1.out.base (Nat.zero_le _)) (X2.out.base (Nat.zero_le _)) DX1.out (by omega) (by omega) (by have := HL.out; omega) (by have := KL.out; omega)).mono ?_
  rintro e w10 ⟨⟨kx, rfl, hkx⟩, wm, hga, hgb⟩
  clear rcA0 rzA0 rlA0 rcXb rzXb rlXb
  have A0 := A0.grown hga (fun e => by have := BX1.out _ e.symm; omega)
  have Xb := Xb.grown hga (fun e => by have := BX1.out _ e.symm; omega)
  have W := Lib.hid (W.out.far hga (fun q hq e => by have := BW.out _ hq; have := BX1.out _ e; omega))
  have G := Lib.hid (G.out.far hga (fun q hq e => by have := BG.out _ hq; have := BX1.out _ e; omega))
  have E := ext_grown E hga (fun q hq => by have := BX1.out q hq; omega)
  have qwm := (hga).size
  have A0 := A0.grown hgb (fun e => by have := BX2.out _ e.symm; omega)
  have Xb := Xb.grown hgb (fun e => by have := BX2.out _ e.symm; omega)
  have W := Lib.hid (W.out.far hgb (fun q hq e => by have := BW.out _ hq; have := BX2.out _ e; omega))
  have G := Lib.hid (G.out.far hgb (fun q hq e => by have := BG.out _ hq; have := BX2.out _ e; omega))
  have E := ext_grown E hgb (fun q hq => by have := BX2.out q hq; omega)
  have qw10 := (hgb).size
  clear hga hgb
  obtain ⟨rcA0, rzA0⟩ := (A0).rules; have rlA0 := (A0).lt
  obtain ⟨rcXb, rzXb⟩ := (Xb).rules; have rlXb := (Xb).lt
  go_wp2_with fail
  refine (laws_eqIntS _ _ P P _ (G.out.base (Nat.zero_le _)) (W.out.base (Nat.zero_le _))).mono ?_
  rintro e w11 ⟨rfl, hb11⟩
  clear rcA0 rzA0 rlA0 rcXb rzXb rlXb
  have A0 := A0.ext hb11
  have Xb := Xb.ext hb11
  have W := Lib.hid (W.out.ext hb11)
  have G := Lib.hid (G.out.ext hb11)
  have E := ext_trans E hb11
  have qw11 := (hb11).size
  clear hb11
  rw [decide_eq_true rfl]
  obtain ⟨rcA0, rzA0⟩ := (A0).rules; have rlA0 := (A0).lt
  obtain ⟨rcXb, rzXb⟩ := (Xb).rules; have rlXb := (Xb).lt
  go_wp2_with fail
  refine (laws_markIntS _ P _ 1 _ G.out (by omega) (by omega) (by omega)).mono ?_
  rintro e w12 ⟨rfl, hG, hg12⟩
  clear rcA0 rzA0 rlA0 rcXb rzXb rlXb
  have A0 := A0.grown hg12 (fun e => by have := BG.out _ e.symm; omega)
  have Xb := Xb.grown hg12 (fun e => by have := BG.out _ e.symm; omega)
  have W := Lib.hid (W.out.far hg12 (fun q hq e => by have := BW.out _ hq; have := BG.out _ e; omega))
  have E := ext_grown E hg12 (fun q hq => by have := BG.out q hq; omega)
  have qw12 := (hg12).size
  clear hg12
  have G := Lib.hid hG
  clear hG
  obtain ⟨rcA0, rzA0⟩ := (A0).rules; have rlA0 := (A0).lt
  obtain ⟨rcXb, rzXb⟩ := (Xb).rules; have rlXb := (Xb).lt
  go_wp2_with fail
  refine (laws_heldIntS _ P.length 1 _ (G.out.base (Nat.zero_le _)) (by omega) (by omega) (by omega)).mono ?_
  rintro e w13 ⟨rfl, hb13⟩
  clear rcA0 rzA0 rlA0 rcXb rzXb rlXb
  have A0 := A0.ext hb13
  have Xb := Xb.ext hb13
  have W := Lib.hid (W.out.ext hb13)
  have G := Lib.hid (G.out.ext hb13)
  have E := ext_trans E hb13
  have qw13 := (hb13).size
  clear hb13
  obtain ⟨rcA0, rzA0⟩ := (A0).rules; have rlA0 := (A0).lt
  obtain ⟨rcXb, rzXb⟩ := (Xb).rules; have rlXb := (Xb).lt
  go_wp2_with fail
  refine (laws_toProject a0 n0 cap0 l0 c0 m0 cb0 t0 _ (H.out.ext E) (K.out.ext E) hn0 hm0).mono ?_
  rintro e w14 ⟨vT1, vT2, rfl, hT1, hT2, hdT1, hb14⟩
  clear rcA0 rzA0 rlA0 rcXb rzXb rlXb
  have A0 := A0.ext hb14
  have Xb := Xb.ext hb14
  have W := Lib.hid (W.out.ext hb14)
  have G := Lib.hid (G.out.ext hb14)
  have E := ext_trans E hb14
  have qw14 := (hb14).size
  clear hb14
  obtain ⟨aT1, cT1, rfl, -⟩ := hT1.open
  have T1 := Lib.hid hT1
  clear hT1
  have BT1 := Lib.hid T1.out.lt
  obtain ⟨aT2, cT2, rfl, -⟩ := hT2.open
  have T2 := Lib.hid hT2
  clear hT2
  have BT2 := Lib.hid T2.out.lt
  obtain ⟨rcA0, rzA0⟩ := (A0).rules; have rlA0 := (A0).lt
  obtain ⟨rcXb, rzXb⟩ := (Xb).rules; have rlXb := (Xb).lt
  go_wp2_with fail
  have DT1 := Lib.hid hdT1
  clear hdT1
  refine ((show Calls Try.prog 38 #[.agg #[.slice aT1 l0.length cT1, .slice aT2 t0.length cT2]] _ (RetInts _ P) by rw [hP.out]; exact impl_ChainOf p _ _ _ (by rw [hpl.out]; exact T1.out.base (Nat.zero_le _)) (by rw [hpt.out]; exact T2.out.base (Nat.zero_le _)))).mono ?_
  rintro e w15 ⟨vG2, rfl, hG2, hb15⟩
  clear rcA0 rzA0 rlA0 rcXb rzXb rlXb
  have A0 := A0.ext hb15
  have Xb := Xb.ext hb15
  have W := Lib.hid (W.out.ext hb15)
  have G := Lib.hid (G.out.ext hb15)
  have T1 := Lib.hid (T1.out.ext hb15)
  have T2 := Lib.hid (T2.out.ext hb15)
  have E := ext_trans E hb15
  have qw15 := (hb15).size
  clear hb15
  obtain ⟨aG2, cG2, rfl, -⟩ := hG2.open
  have G2 := Lib.hid hG2
  clear hG2
  have BG2 := Lib.hid G2.out.lt
  obtain ⟨rcA0, rzA0⟩ := (A0).rules; have rlA0 := (A0).lt
  obtain ⟨rcXb, rzXb⟩ := (Xb).rules; have rlXb := (Xb).lt
  go_wp2_with fail
  refine (laws_eqIntS _ _ P P _ (G2.out.base (Nat.zero_le _)) (W.out.base (Nat.zero_le _))).mono ?_
  rintro e w16 ⟨rfl, hb16⟩
  clear rcA0 rzA0 rlA0 rcXb rzXb rlXb
  have A0 := A0.ext hb16
  have Xb := Xb.ext hb16
  have W := Lib.hid (W.out.ext hb16)
  have G := Lib.hid (G.out.ext hb16)
  have G2 := Lib.hid (G2.out.ext hb16)
  have E := ext_trans E hb16
  have qw16 := (hb16).size
  clear hb16
  rw [decide_eq_true rfl]
  obtain ⟨rcA0, rzA0⟩ := (A0).rules; have rlA0 := (A0).lt
  obtain ⟨rcXb, rzXb⟩ := (Xb).rules; have rlXb := (Xb).lt
  go_wp2_with fail
  refine (laws_heldIntS _ P.length 1 _ (G.out.base (Nat.zero_le _)) (by omega) (by omega) (by omega)).mono ?_
  rintro e w17 ⟨rfl, hb17⟩
  clear rcA0 rzA0 rlA0 rcXb rzXb rlXb
  have A0 := A0.ext hb17
  have Xb := Xb.ext hb17
  have W := Lib.hid (W.out.ext hb17)
  have G := Lib.hid (G.out.ext hb17)
  have G2 := Lib.hid (G2.out.ext hb17)
  have E := ext_trans E hb17
  have qw17 := (hb17).size
  clear hb17
  obtain ⟨rcA0, rzA0⟩ := (A0).rules; have rlA0 := (A0).lt
  obtain ⟨rcXb, rzXb⟩ := (Xb).rules; have rlXb := (Xb).lt
  go_wp2_with fail
  go_ret
  exact ⟨rfl, E⟩
end Go.Proofs.Ytllicgomlohffaa
