/- The walk of FnExactGreedyBy: it returns true, whatever came in. No condition. -/
import Derived.Test.YtdfcjhcnojgkiaaGrS
import Derived.Test.YtdfcjhcnojgkiaaLawInts
namespace Go.Proofs.Ytdfcjhcnojgkiaa
open Go.RowKit
set_option linter.unusedVariables false
set_option linter.unusedSimpArgs false
set_option maxRecDepth 100000 in
set_option maxHeartbeats 1000000 in
theorem laws_markProject2 (v1 v2 : Value) (l t : List Int) (base : Nat) (k : Int) (w : World) (h1 : Ints w base v1 l) (h2 : Ints w base v2 t) (hd : ∀ q, v1.ownBlock = some q → v2.ownBlock ≠ some q) (h0 : 0 ≤ k) (hk : k ≤ 1000) (hn : l.length ≤ 2000000) (hm : t.length ≤ 2000000) :
    Calls Try.prog 20 #[.agg #[v1, v2], .int .i64 k] w fun e w' => (∃ x, e = .returned (.int .i64 x) ∧ 0 ≤ x ∧ x ≤ 10000000) ∧ ∃ wm, w.grownBy wm v1.ownBlock ∧ wm.grownBy w' v2.ownBlock := by
  have H1 := Lib.hid h1; have H2 := Lib.hid h2
  obtain ⟨a1, c1, rfl, -⟩ := h1.open
  obtain ⟨a2, c2, rfl, -⟩ := h2.open
  clear h1 h2
  go_enter Try.func20, Try.ntmps20
  go_wp2_with fail
  obtain ⟨W, hW, A0, hs, E⟩ := one_box w #[.slice a1 l.length c1, .slice a2 t.length c2] 27
  rw [← hW.out]
  have lt1 := H1.out.lt
  refine (laws_markIntS _ l base k _ (H1.out.ext E) h0 (by omega) (by omega)).mono ?_
  rintro e w1 ⟨rfl, hi1, hg1⟩
  have A0 := A0.grown hg1 (fun e => by have := lt1 _ e.symm; omega)
  obtain ⟨rc0, rz0⟩ := (A0).rules; have rl0 := (A0).lt
  go_wp2_with fail
  have R2 := (H2.out.ext E).far hg1 (fun q hq e => hd q e hq)
  refine (laws_markIntS _ t base _ _ R2 (by omega) (by omega) (by omega)).mono ?_
  rintro e w2 ⟨rfl, hi2, hg2⟩
  go_wp2_with fail
  go_ret
  exact ⟨⟨_, rfl, by omega, by omega⟩, w1, grown_trans0 E hg1, hg2⟩
set_option maxRecDepth 100000 in
set_option maxHeartbeats 8000000 in
theorem walk_ExactGreedyBy (a0 : Option Addr) (n0 cap0 : Nat) (l0 : List Int) (c0 : Option Addr) (m0 cb0 : Nat) (t0 : List Int) (x1 : Int) (d0 : Option Addr) (r0 cd0 : Nat) (u0 : List Int) (w : World) (h0 : AInts w a0 n0 cap0 l0) (k0 : AInts w c0 m0 cb0 t0) (j0 : AInts w d0 r0 cd0 u0) :
    Calls Try.prog 5 #[.agg #[.slice a0 n0 cap0, .slice c0 m0 cb0], .int .i64 x1, .slice d0 r0 cd0] w fun e w' => e = .returned (.bool true) ∧ Below w.heap.size w w' := by
  obtain ⟨hl0, hcap0, hmax0, -⟩ := id h0
  obtain ⟨kl0, kcap0, kmax0, -⟩ := id k0
  obtain ⟨jl0, jcap0, jmax0, -⟩ := id j0
  have H := Lib.hid h0; have K := Lib.hid k0; have J := Lib.hid j0
  have HL := Lib.hid hl0; have KL := Lib.hid kl0; have JL := Lib.hid jl0
  clear h0 k0 j0 hl0 kl0 jl0
  by_cases hbigr : 1048576 < r0
  · go_enter Try.func5, Try.ntmps5
    go_wp2_with fail
    go_ret
    exact ⟨rfl, ext_alloc (ext_refl _) _⟩
  by_cases hbig : (1048576 : Int) - ((n0 + m0 : Nat) : Int) < 0
  · have Hs := Lib.hid (szI_neg hbig)
    go_enter Try.func5, Try.ntmps5
    go_wp2_with fail
    obtain ⟨w1, hw1, A0, hs1, hb1⟩ := one_box w #[.slice a0 n0 cap0, .slice c0 m0 cb0] 24
    rw [← hw1.out]
    have E := hb1
    clear hb1
    obtain ⟨rcA0, rzA0⟩ := (A0).rules; have rlA0 := (A0).lt
    go_wp2_with fail
    refine (laws_szProject a0 n0 cap0 c0 m0 cb0 _ _ (by omega) (by omega) (by omega) (by omega)).mono ?_
    rintro e w2 ⟨rfl, hb2⟩
    clear rcA0 rzA0 rlA0
    have A0 := A0.ext hb2
    have E := ext_trans E hb2
    clear hb2
    rw [Hs.out]
    obtain ⟨rcA0, rzA0⟩ := (A0).rules; have rlA0 := (A0).lt
    go_wp2_with fail
    go_ret
    exact ⟨rfl, E⟩
  have Hs := Lib.hid (szI_pos hbig)
  have hn0 : n0 ≤ 1048576 := by omega
  have hm0 : m0 ≤ 1048576 := by omega
  have hr0 : r0 ≤ 1048576 := by omega
  go_enter Try.func5, Try.ntmps5
  go_wp2_with fail
  obtain ⟨w1, hw1, A0, hs1, hb1⟩ := one_box w #[.slice a0 n0 cap0, .slice c0 m0 cb0] 24
  rw [← hw1.out]
  have E := hb1
  have qw1 := (hb1).size
  clear hb1
  obtain ⟨rcA0, rzA0⟩ := (A0).rules; have rlA0 := (A0).lt
  go_wp2_with fail
  refine (laws_szProject a0 n0 cap0 c0 m0 cb0 _ _ (by omega) (by omega) (by omega) (by omega)).mono ?_
  rintro e w2 ⟨rfl, hb2⟩
  clear rcA0 rzA0 rlA0
  have A0 := A0.ext hb2
  have E := ext_trans E hb2
  have qw2 := (hb2).size
  clear hb2
  rw [Hs.out]
  obtain ⟨rcA0, rzA0⟩ := (A0).rules; have rlA0 := (A0).lt
  go_wp2_with fail
  obtain ⟨p, hp⟩ : ∃ p : Pj, Hid (p = ⟨l0, t0⟩) := ⟨_, rfl⟩
  have hpl : Hid (p.lo = l0) := by rw [hp.out]; exact Lib.hid rfl
  have hpt : Hid (p.af = t0) := by rw [hp.out]; exact Lib.hid rfl
  have hlen : p.lo.length ≤ 4000000 := by rw [hpl.out]; have := HL.out; omega
  obtain ⟨P, hP⟩ : ∃ P : List Int, Hid (P = p.greedyBy x1 u0) := ⟨_, rfl⟩
  obtain ⟨bP, hbP⟩ : ∃ b : Bool, Hid (b = p.ordFit x1 u0) := ⟨_, rfl⟩
  have hPl : P.length ≤ 2000000 := by rw [hP.out]; have := greedy_len6 p x1 u0; omega
  refine (laws_toProject a0 n0 cap0 l0 c0 m0 cb0 t0 _ (H.out.ext E) (K.out.ext E) hn0 hm0).mono ?_
  rintro e w3 ⟨vT1, vT2, rfl, hT1, hT2, hdT1, hb3⟩
  clear rcA0 rzA0 rlA0
  have A0 := A0.ext hb3
  have E := ext_trans E hb3
  have qw3 := (hb3).size
  clear hb3
  obtain ⟨aT1, cT1, rfl, -⟩ := hT1.open
  have T1 := Lib.hid hT1
  clear hT1
  have BT1 := Lib.hid T1.out.lt
  obtain ⟨aT2, cT2, rfl, -⟩ := hT2.open
  have T2 := Lib.hid hT2
  clear hT2
  have BT2 := Lib.hid T2.out.lt
  obtain ⟨rcA0, rzA0⟩ := (A0).rules; have rlA0 := (A0).lt
  go_wp2_with fail
  have DT1 := Lib.hid hdT1
  clear hdT1
  refine (laws_toIntS d0 r0 cd0 u0 _ (J.out.ext E) hr0).mono ?_
  rintro e w4 ⟨vS, rfl, hS, hb4⟩
  clear rcA0 rzA0 rlA0
  have A0 := A0.ext hb4
  have T1 := Lib.hid (T1.out.ext hb4)
  have T2 := Lib.hid (T2.out.ext hb4)
  have E := ext_trans E hb4
  have qw4 := (hb4).size
  clear hb4
  obtain ⟨aS, cS, rfl, -⟩ := hS.open
  have S := Lib.hid hS
  clear hS
  have BS := Lib.hid S.out.lt
  obtain ⟨rcA0, rzA0⟩ := (A0).rules; have rlA0 := (A0).lt
  go_wp2_with fail
  refine ((show Calls Try.prog 18 #[.agg #[.slice aT1 l0.length cT1, .slice aT2 t0.length cT2], .int .i64 x1, .slice aS u0.length cS] _ (RetIntsB _ P bP) by rw [hP.out, hbP.out]; exact spec_GreedyBy p _ _ _ x1 u0 _ (by rw [hpl.out]; exact T1.out.base (Nat.zero_le _)) (by rw [hpt.out]; exact T2.out.base (Nat.zero_le _)) (S.out.base (Nat.zero_le _)) hlen)).mono ?_
  rintro e w5 ⟨vW, rfl, hW, hb5⟩
  clear rcA0 rzA0 rlA0
  have A0 := A0.ext hb5
  have T1 := Lib.hid (T1.out.ext hb5)
  have T2 := Lib.hid (T2.out.ext hb5)
  have S := Lib.hid (S.out.ext hb5)
  have E := ext_trans E hb5
  have qw5 := (hb5).size
  clear hb5
  obtain ⟨aW, cW, rfl, -⟩ := hW.open
  have W := Lib.hid hW
  clear hW
  have BW := Lib.hid W.out.lt
  obtain ⟨rcA0, rzA0⟩ := (A0).rules; have rlA0 := (A0).lt
  go_wp2_with fail
  clear T1 T2 S BT1 BT2 BS
  refine (laws_toProject a0 n0 cap0 l0 c0 m0 cb0 t0 _ (H.out.ext E) (K.out.ext E) hn0 hm0).mono ?_
  rintro e w6 ⟨vX1, vX2, rfl, hX1, hX2, hdX1, hb6⟩
  clear rcA0 rzA0 rlA0
  have A0 := A0.ext hb6
  have W := Lib.hid (W.out.ext hb6)
  have E := ext_trans E hb6
  have qw6 := (hb6).size
  clear hb6
  obtain ⟨aX1, cX1, rfl, -⟩ := hX1.open
  have X1 := Lib.hid hX1
  clear hX1
  have BX1 := Lib.hid X1.out.lt
  obtain ⟨aX2, cX2, rfl, -⟩ := hX2.open
  have X2 := Lib.hid hX2
  clear hX2
  have BX2 := Lib.hid X2.out.lt
  obtain ⟨rcA0, rzA0⟩ := (A0).rules; have rlA0 := (A0).lt
  have DX1 := Lib.hid hdX1
  clear hdX1
  go_wp2_with fail
  obtain ⟨w7, hw7, Xb, hs7, hb7⟩ := one_box w6 #[.slice aX1 l0.length cX1, .slice aX2 t0.length cX2] 27
  rw [← hw7.out]
  clear rcA0 rzA0 rlA0
  have A0 := A0.ext hb7
  have W := Lib.hid (W.out.ext hb7)
  have X1 := Lib.hid (X1.out.ext hb7)
  have X2 := Lib.hid (X2.out.ext hb7)
  have E := ext_trans E hb7
  have qw7 := (hb7).size
  clear hb7
  obtain ⟨rcA0, rzA0⟩ := (A0).rules; have rlA0 := (A0).lt
  obtain ⟨rcXb, rzXb⟩ := (Xb).rules; have rlXb := (Xb).lt
  go_wp2_with fail
  refine (laws_toIntS d0 r0 cd0 u0 _ (J.out.ext E) hr0).mono ?_
  rintro e w8 ⟨vR, rfl, hR, hb8⟩
  clear rcA0 rzA0 rlA0 rcXb rzXb rlXb
  have A0 := A0.ext hb8
  have Xb := Xb.ext hb8
  have W := Lib.hid (W.out.ext hb8)
  have X1 := Lib.hid (X1.out.ext hb8)
  have X2 := Lib.hid (X2.out.ext hb8)
  have E := ext_trans E hb8
  have qw8 := (hb8).size
  clear hb8
  obtain ⟨aR, cR, rfl, -⟩ := hR.open
  have R := Lib.hid hR
  clear hR
  have BR := Lib.hid R.out.lt
  obtain ⟨rcA0, rzA0⟩ := (A0).rules; have rlA0 := (A0).lt
  obtain ⟨rcXb, rzXb⟩ := (Xb).rules; have rlXb := (Xb).lt
  go_wp2_with fail
  refine ((show Calls Try.prog 19 #[.agg #[.slice aX1 l0.length cX1, .slice aX2 t0.length cX2], .int .i64 x1, .slice aR u0.length cR] _ (RetIntsB _ P bP) by rw [hP.out, hbP.out]; exact impl_GreedyBy p _ _ _ x1 u0 _ (by rw [hpl.out]; exact X1.out.base (Nat.zero_le _)) (by rw [hpt.out]; exact X2.out.base (Nat.zero_le _)) (R.out.base (Nat.zero_le _)) hlen)).mono ?_
  rintro e w9 ⟨vG, rfl, hG, hb9⟩
  clear rcA0 rzA0 rlA0 rcXb rzXb rlXb
  have A0 := A0.ext hb9
  have Xb := Xb.ext hb9
  have W := Lib.hid (W.out.ext hb9)
  have X1 := Lib.hid (X1.out.ext hb9)
  have X2 := Lib.hid (X2.out.ext hb9)
  have R := Lib.hid (R.out.ext hb9)
  have E := ext_trans E hb9
  have qw9 := (hb9).size
  clear hb9
  obtain ⟨aG, cG, rfl, -⟩ := hG.open
  have G := Lib.hid hG
  clear hG
  have BG := Lib.hid G.out.lt
  obtain ⟨rcA0, rzA0⟩ := (A0).rules; have rlA0 := (A0).lt
  obtain ⟨rcXb, rzXb⟩ := (Xb).rules; have rlXb := (Xb).lt
  go_wp2_with fail
  refine (laws_eqIntS _ _ P P _ (G.out.base (Nat.zero_le _)) (W.out.base (Nat.zero_le _))).mono ?_
  rintro e w10 ⟨rfl, hb10⟩
  clear rcA0 rzA0 rlA0 rcXb rzXb rlXb
  have A0 := A0.ext hb10
  have Xb := Xb.ext hb10
  have W := Lib.hid (W.out.ext hb10)
  have X1 := Lib.hid (X1.out.ext hb10)
  have X2 := Lib.hid (X2.out.ext hb10)
  have R := Lib.hid (R.out.ext hb10)
  have G := Lib.hid (G.out.ext hb10)
  have E := ext_trans E hb10
  have qw10 := (hb10).size
  clear hb10
  rw [decide_eq_true rfl]
  have hbb : (bP != bP) = false := by simp
  obtain ⟨rcA0, rzA0⟩ := (A0).rules; have rlA0 := (A0).lt
  obtain ⟨rcXb, rzXb⟩ := (Xb).rules; have rlXb := (Xb).lt
  go_wp2_with fail
  go_region_held3 (fun w' => w'.cell? ⟨w.heap.size, 0, none⟩ = some (Value.slice a0 n0 cap0) ∧ w'.cell? ⟨w.heap.size, 1, none⟩ = some (Value.slice c0 m0 cb0) ∧ w'.cell? ⟨w6.heap.size, 0, none⟩ = some (Value.slice aX1 l0.length cX1) ∧ w'.cell? ⟨w6.heap.size, 1, none⟩ = some (Value.slice aX2 t0.length cX2))
    (first | exact ⟨A0.cell0 rfl, A0.cell0 rfl, Xb.cell0 rfl, Xb.cell0 rfl⟩ | exact ⟨A0a11.cell0 rfl, A0a11.cell0 rfl, Xba11.cell0 rfl, Xba11.cell0 rfl⟩ | exact ⟨A0b11.cell0 rfl, A0b11.cell0 rfl, Xbb11.cell0 rfl, Xbb11.cell0 rfl⟩)
    (first | (go_at_call 11
              refine (laws_toProject a0 n0 cap0 l0 c0 m0 cb0 t0 _ (H.out.ext (ext_trans E (ext_drew (ext_refl w10)))) (K.out.ext (ext_trans E (ext_drew (ext_refl w10)))) hn0 hm0).mono ?_
              rintro e wa11 ⟨vY1, vY2, rfl, hY1, hY2, hdY, hba11⟩
              obtain ⟨aY1, cY1, rfl, -⟩ := hY1.open
              obtain ⟨aY2, cY2, rfl, -⟩ := hY2.open
              have A0a11 := A0.ext (ext_trans (ext_drew (ext_refl w10)) hba11)
              have Xba11 := Xb.ext (ext_trans (ext_drew (ext_refl w10)) hba11)
              have Y1a11 := hY1
              have Y2a11 := hY2
              have Ha11 := ext_trans (ext_drew (ext_refl w10)) hba11)
           | (go_at_call 14
              refine (laws_eqProject _ _ _ _ l0 t0 l0 t0 _ ((X1.out.ext Ha11).base (Nat.zero_le _)) ((X2.out.ext Ha11).base (Nat.zero_le _)) (Y1a11.base (Nat.zero_le _)) (Y2a11.base (Nat.zero_le _))).mono ?_
              rintro e wb11 ⟨rfl, hbb11⟩
              rw [show (decide (l0 = l0) && decide (t0 = t0)) = true by simp]
              have A0b11 := A0.ext (ext_trans Ha11 hbb11)
              have Xbb11 := Xb.ext (ext_trans Ha11 hbb11)
              have Y1b11 := Y1a11.ext hbb11
              have Y2b11 := Y2a11.ext hbb11
              have Hb11 := ext_trans Ha11 hbb11))
  clear rcA0 rzA0 rlA0 rcXb rzXb rlXb
  have A0 := A0.ext Hb11
  have Xb := Xb.ext Hb11
  have W := Lib.hid (W.out.ext Hb11)
  have X1 := Lib.hid (X1.out.ext Hb11)
  have X2 := Lib.hid (X2.out.ext Hb11)
  have R := Lib.hid (R.out.ext Hb11)
  have G := Lib.hid (G.out.ext Hb11)
  have E := ext_trans E Hb11
  have Y1 := Lib.hid Y1b11
  have Y2 := Lib.hid Y2b11
  have qwb11 := (Hb11).size
  clear A0a11 Xba11 A0b11 Xbb11 hba11 hbb11 Ha11 Hb11
  obtain ⟨rcA0, rzA0⟩ := (A0).rules; have rlA0 := (A0).lt
  obtain ⟨rcXb, rzXb⟩ := (Xb).rules; have rlXb := (Xb).lt
  clear rcA0 rzA0 rlA0 rcXb rzXb rlXb
  obtain ⟨rcA0, rzA0⟩ := (A0).rules; have rlA0 := (A0).lt
  obtain ⟨rcXb, rzXb⟩ := (Xb).rules; have rlXb := (Xb).lt
  go_wp2_with fail
  refine (laws_toIntS d0 r0 cd0 u0 _ (J.out.ext E) hr0).mono ?_
  rintro e w12 ⟨vZ, rfl, hZ, hb12⟩
  clear rcA0 rzA0 rlA0 rcXb rzXb rlXb
  have A0 := A0.ext hb12
  have Xb := Xb.ext hb12
  have W := Lib.hid (W.out.ext hb12)
  have X1 := Lib.hid (X1.out.ext hb12)
  have X2 := Lib.hid (X2.out.ext hb12)
  have R := Lib.hid (R.out.ext hb12)
  have G := Lib.hid (G.out.ext hb12)
  have E := ext_trans E hb12
  have qw12 := (hb12).size
  clear hb12
  obtain ⟨aZ, cZ, rfl, -⟩ := hZ.open
  have Z := Lib.hid hZ
  clear hZ
  have BZ := Lib.hid Z.out.lt
  obtain ⟨rcA0, rzA0⟩ := (A0).rules; have rlA0 := (A0).lt
  obtain ⟨rcXb, rzXb⟩ := (Xb).rules; have rlXb := (Xb).lt
  go_wp2_with fail
  refine (laws_eqIntS _ _ u0 u0 _ (R.out.base (Nat.zero_le _)) (Z.out.base (Nat.zero_le _))).mono ?_
  rintro e w13 ⟨rfl, hb13⟩
  clear rcA0 rzA0 rlA0 rcXb rzXb rlXb
  have A0 := A0.ext hb13
  have Xb := Xb.ext hb13
  have W := Lib.hid (W.out.ext hb13)
  have X1 := Lib.hid (X1.out.ext hb13)
  have X2 := Lib.hid (X2.out.ext hb13)
  have R := Lib.hid (R.out.ext hb13)
  have G := Lib.hid (G.out.ext hb13)
  have Z := Lib.hid (Z.out.ext hb13)
  have E := ext_trans E hb13
  have qw13 := (hb13).size
  clear hb13
  rw [decide_eq_true rfl]
  obtain ⟨rcA0, rzA0⟩ := (A0).rules; have rlA0 := (A0).lt
  obtain ⟨rcXb, rzXb⟩ := (Xb).rules; have rlXb := (Xb).lt
  go_wp2_with fail
  clear Z BZ
  refine (laws_markProject2 _ _ l0 t0 _ 1 _ (X1.out.base (Nat.zero_le _)) (X2.out.base (Nat.zero_le _)) DX1.out (by omega) (by omega) (by have := HL.out; omega) (by have := KL.out; omega)).mono ?_
  rintro e w14 ⟨⟨kx, rfl, hkx, hkx2⟩, wm, hga, hgb⟩
  clear rcA0 rzA0 rlA0 rcXb rzXb rlXb
  have A0 := A0.grown hga (fun e => by have := BX1.out _ e.symm; omega)
  have Xb := Xb.grown hga (fun e => by have := BX1.out _ e.symm; omega)
  have W := Lib.hid (W.out.far hga (fun q hq e => by have := BW.out _ hq; have := BX1.out _ e; omega))
  have R := Lib.hid (R.out.far hga (fun q hq e => by have := BR.out _ hq; have := BX1.out _ e; omega))
  have G := Lib.hid (G.out.far hga (fun q hq e => by have := BG.out _ hq; have := BX1.out _ e; omega))
  have E := ext_grown E hga (fun q hq => by have := BX1.out q hq; omega)
  have qwm := (hga).size
  have A0 := A0.grown hgb (fun e => by have := BX2.out _ e.symm; omega)
  have Xb := Xb.grown hgb (fun e => by have := BX2.out _ e.symm; omega)
  have W := Lib.hid (W.out.far hgb (fun q hq e => by have := BW.out _ hq; have := BX2.out _ e; omega))
  have R := Lib.hid (R.out.far hgb (fun q hq e => by have := BR.out _ hq; have := BX2.out _ e; omega))
  have G := Lib.hid (G.out.far hgb (fun q hq e => by have := BG.out _ hq; have := BX2.out _ e; omega))
  have E := ext_grown E hgb (fun q hq => by have := BX2.out q hq; omega)
  have qw14 := (hgb).size
  clear hga hgb
  obtain ⟨rcA0, rzA0⟩ := (A0).rules; have rlA0 := (A0).lt
  obtain ⟨rcXb, rzXb⟩ := (Xb).rules; have rlXb := (Xb).lt
  go_wp2_with fail
  refine (laws_markIntS _ u0 _ kx _ R.out (by omega) (by omega) (by have := JL.out; omega)).mono ?_
  rintro e w15 ⟨rfl, -, hg15⟩
  clear rcA0 rzA0 rlA0 rcXb rzXb rlXb
  have A0 := A0.grown hg15 (fun e => by have := BR.out _ e.symm; omega)
  have Xb := Xb.grown hg15 (fun e => by have := BR.out _ e.symm; omega)
  have W := Lib.hid (W.out.far hg15 (fun q hq e => by have := BW.out _ hq; have := BR.out _ e; omega))
  have G := Lib.hid (G.out.far hg15 (fun q hq e => by have := BG.out _ hq; have := BR.out _ e; omega))
  have E := ext_grown E hg15 (fun q hq => by have := BR.out q hq; omega)
  have qw15 := (hg15).size
  clear hg15
  have hk9 : 0 ≤ kx + (u0.length : Int) := by omega
  obtain ⟨rcA0, rzA0⟩ := (A0).rules; have rlA0 := (A0).lt
  obtain ⟨rcXb, rzXb⟩ := (Xb).rules; have rlXb := (Xb).lt
  go_wp2_with fail
  refine (laws_eqIntS _ _ P P _ (G.out.base (Nat.zero_le _)) (W.out.base (Nat.zero_le _))).mono ?_
  rintro e w16 ⟨rfl, hb16⟩
  clear rcA0 rzA0 rlA0 rcXb rzXb rlXb
  have A0 := A0.ext hb16
  have Xb := Xb.ext hb16
  have W := Lib.hid (W.out.ext hb16)
  have G := Lib.hid (G.out.ext hb16)
  have E := ext_trans E hb16
  have qw16 := (hb16).size
  clear hb16
  rw [decide_eq_true rfl]
  have hbb : (bP != bP) = false := by simp
  obtain ⟨rcA0, rzA0⟩ := (A0).rules; have rlA0 := (A0).lt
  obtain ⟨rcXb, rzXb⟩ := (Xb).rules; have rlXb := (Xb).lt
  go_wp2_with fail
  refine (laws_markIntS _ P _ 1 _ G.out (by omega) (by omega) (by omega)).mono ?_
  rintro e w17 ⟨rfl, hG, hg17⟩
  clear rcA0 rzA0 rlA0 rcXb rzXb rlXb
  have A0 := A0.grown hg17 (fun e => by have := BG.out _ e.symm; omega)
  have Xb := Xb.grown hg17 (fun e => by have := BG.out _ e.symm; omega)
  have W := Lib.hid (W.out.far hg17 (fun q hq e => by have := BW.out _ hq; have := BG.out _ e; omega))
  have E := ext_grown E hg17 (fun q hq => by have := BG.out q hq; omega)
  have qw17 := (hg17).size
  clear hg17
  have G := Lib.hid hG
  clear hG
  obtain ⟨rcA0, rzA0⟩ := (A0).rules; have rlA0 := (A0).lt
  obtain ⟨rcXb, rzXb⟩ := (Xb).rules; have rlXb := (Xb).lt
  go_wp2_with fail
  refine (laws_heldIntS _ P.length 1 _ (G.out.base (Nat.zero_le _)) (by omega) (by omega) (by omega)).mono ?_
  rintro e w18 ⟨rfl, hb18⟩
  clear rcA0 rzA0 rlA0 rcXb rzXb rlXb
  have A0 := A0.ext hb18
  have Xb := Xb.ext hb18
  have W := Lib.hid (W.out.ext hb18)
  have G := Lib.hid (G.out.ext hb18)
  have E := ext_trans E hb18
  have qw18 := (hb18).size
  clear hb18
  obtain ⟨rcA0, rzA0⟩ := (A0).rules; have rlA0 := (A0).lt
  obtain ⟨rcXb, rzXb⟩ := (Xb).rules; have rlXb := (Xb).lt
  go_wp2_with fail
  refine (laws_toProject a0 n0 cap0 l0 c0 m0 cb0 t0 _ (H.out.ext E) (K.out.ext E) hn0 hm0).mono ?_
  rintro e w19 ⟨vT1, vT2, rfl, hT1, hT2, hdT1, hb19⟩
  clear rcA0 rzA0 rlA0 rcXb rzXb rlXb
  have A0 := A0.ext hb19
  have Xb := Xb.ext hb19
  have W := Lib.hid (W.out.ext hb19)
  have G := Lib.hid (G.out.ext hb19)
  have E := ext_trans E hb19
  have qw19 := (hb19).size
  clear hb19
  obtain ⟨aT1, cT1, rfl, -⟩ := hT1.open
  have T1 := Lib.hid hT1
  clear hT1
  have BT1 := Lib.hid T1.out.lt
  obtain ⟨aT2, cT2, rfl, -⟩ := hT2.open
  have T2 := Lib.hid hT2
  clear hT2
  have BT2 := Lib.hid T2.out.lt
  obtain ⟨rcA0, rzA0⟩ := (A0).rules; have rlA0 := (A0).lt
  obtain ⟨rcXb, rzXb⟩ := (Xb).rules; have rlXb := (Xb).lt
  go_wp2_with fail
  have DT1 := Lib.hid hdT1
  clear hdT1
  refine (laws_toIntS d0 r0 cd0 u0 _ (J.out.ext E) hr0).mono ?_
  rintro e w20 ⟨vS, rfl, hS, hb20⟩
  clear rcA0 rzA0 rlA0 rcXb rzXb rlXb
  have A0 := A0.ext hb20
  have Xb := Xb.ext hb20
  have W := Lib.hid (W.out.ext hb20)
  have G := Lib.hid (G.out.ext hb20)
  have T1 := Lib.hid (T1.out.ext hb20)
  have T2 := Lib.hid (T2.out.ext hb20)
  have E := ext_trans E hb20
  have qw20 := (hb20).size
  clear hb20
  obtain ⟨aS, cS, rfl, -⟩ := hS.open
  have S := Lib.hid hS
  clear hS
  have BS := Lib.hid S.out.lt
  obtain ⟨rcA0, rzA0⟩ := (A0).rules; have rlA0 := (A0).lt
  obtain ⟨rcXb, rzXb⟩ := (Xb).rules; have rlXb := (Xb).lt
  go_wp2_with fail
  refine ((show Calls Try.prog 19 #[.agg #[.slice aT1 l0.length cT1, .slice aT2 t0.length cT2], .int .i64 x1, .slice aS u0.length cS] _ (RetIntsB _ P bP) by rw [hP.out, hbP.out]; exact impl_GreedyBy p _ _ _ x1 u0 _ (by rw [hpl.out]; exact T1.out.base (Nat.zero_le _)) (by rw [hpt.out]; exact T2.out.base (Nat.zero_le _)) (S.out.base (Nat.zero_le _)) hlen)).mono ?_
  rintro e w21 ⟨vG2, rfl, hG2, hb21⟩
  clear rcA0 rzA0 rlA0 rcXb rzXb rlXb
  have A0 := A0.ext hb21
  have Xb := Xb.ext hb21
  have W := Lib.hid (W.out.ext hb21)
  have G := Lib.hid (G.out.ext hb21)
  have T1 := Lib.hid (T1.out.ext hb21)
  have T2 := Lib.hid (T2.out.ext hb21)
  have S := Lib.hid (S.out.ext hb21)
  have E := ext_trans E hb21
  have qw21 := (hb21).size
  clear hb21
  obtain ⟨aG2, cG2, rfl, -⟩ := hG2.open
  have G2 := Lib.hid hG2
  clear hG2
  have BG2 := Lib.hid G2.out.lt
  obtain ⟨rcA0, rzA0⟩ := (A0).rules; have rlA0 := (A0).lt
  obtain ⟨rcXb, rzXb⟩ := (Xb).rules; have rlXb := (Xb).lt
  go_wp2_with fail
  clear T1 T2 S BT1 BT2 BS
  refine (laws_eqIntS _ _ P P _ (G2.out.base (Nat.zero_le _)) (W.out.base (Nat.zero_le _))).mono ?_
  rintro e w22 ⟨rfl, hb22⟩
  clear rcA0 rzA0 rlA0 rcXb rzXb rlXb
  have A0 := A0.ext hb22
  have Xb := Xb.ext hb22
  have W := Lib.hid (W.out.ext hb22)
  have G := Lib.hid (G.out.ext hb22)
  have G2 := Lib.hid (G2.out.ext hb22)
  have E := ext_trans E hb22
  have qw22 := (hb22).size
  clear hb22
  rw [decide_eq_true rfl]
  have hbb : (bP != bP) = false := by simp
  obtain ⟨rcA0, rzA0⟩ := (A0).rules; have rlA0 := (A0).lt
  obtain ⟨rcXb, rzXb⟩ := (Xb).rules; have rlXb := (Xb).lt
  go_wp2_with fail
  refine (laws_heldIntS _ P.length 1 _ (G.out.base (Nat.zero_le _)) (by omega) (by omega) (by omega)).mono ?_
  rintro e w23 ⟨rfl, hb23⟩
  clear rcA0 rzA0 rlA0 rcXb rzXb rlXb
  have A0 := A0.ext hb23
  have Xb := Xb.ext hb23
  have W := Lib.hid (W.out.ext hb23)
  have G := Lib.hid (G.out.ext hb23)
  have G2 := Lib.hid (G2.out.ext hb23)
  have E := ext_trans E hb23
  have qw23 := (hb23).size
  clear hb23
  obtain ⟨rcA0, rzA0⟩ := (A0).rules; have rlA0 := (A0).lt
  obtain ⟨rcXb, rzXb⟩ := (Xb).rules; have rlXb := (Xb).lt
  go_wp2_with fail
  go_ret
  exact ⟨rfl, E⟩
end Go.Proofs.Ytdfcjhcnojgkiaa
