/- The walk of FnExactIdleOf: it returns true, whatever came in. No condition. -/
import Derived.Test.YtdfcjhcnojgkiaaBeginsS
import Derived.Test.YtdfcjhcnojgkiaaLawInts
namespace Go.Proofs.Ytdfcjhcnojgkiaa
open Go.RowKit
set_option linter.unusedVariables false
set_option linter.unusedSimpArgs false
set_option maxRecDepth 100000 in
set_option maxHeartbeats 8000000 in
theorem walk_ExactIdleOf (a0 : Option Addr) (n0 cap0 : Nat) (l0 : List Int) (c0 : Option Addr) (m0 cb0 : Nat) (t0 : List Int) (x1 : Int) (d0 : Option Addr) (r0 cd0 : Nat) (u0 : List Int) (w : World) (h0 : AInts w a0 n0 cap0 l0) (k0 : AInts w c0 m0 cb0 t0) (j0 : AInts w d0 r0 cd0 u0) :
    Calls Try.prog 4 #[.agg #[.slice a0 n0 cap0, .slice c0 m0 cb0], .int .i64 x1, .slice d0 r0 cd0] w fun e w' => e = .returned (.bool true) ∧ Below w.heap.size w w' := by
  obtain ⟨hl0, hcap0, hmax0, -⟩ := id h0
  obtain ⟨kl0, kcap0, kmax0, -⟩ := id k0
  obtain ⟨jl0, jcap0, jmax0, -⟩ := id j0
  have H := Lib.hid h0; have K := Lib.hid k0; have J := Lib.hid j0
  have HL := Lib.hid hl0; have KL := Lib.hid kl0; have JL := Lib.hid jl0
  clear h0 k0 j0 hl0 kl0 jl0
  by_cases hbigr : 1048576 < r0
  · go_enter Try.func4, Try.ntmps4
    go_wp2_with fail
    go_ret
    exact ⟨rfl, ext_alloc (ext_refl _) _⟩
  by_cases hbig : (1048576 : Int) - ((n0 + m0 : Nat) : Int) < 0
  · have Hs := Lib.hid (szI_neg hbig)
    go_enter Try.func4, Try.ntmps4
    go_wp2_with fail
    obtain ⟨w1, hw1, A0, hs1, hb1⟩ := one_box w #[.slice a0 n0 cap0, .slice c0 m0 cb0] 24
    rw [← hw1.out]
    have E := hb1
    clear hb1
    obtain ⟨rcA0, rzA0⟩ := (A0).rules; have rlA0 := (A0).lt
    go_wp2_with fail
    refine (laws_szProject a0 n0 cap0 c0 m0 cb0 _ _ (by omega) (by omega) (by omega) (by omega)).mono ?_
    rintro e w2 ⟨rfl, hb2⟩
    clear rcA0 rzA0 rlA0
    have A0 := A0.ext hb2
    have E := ext_trans E hb2
    clear hb2
    rw [Hs.out]
    obtain ⟨rcA0, rzA0⟩ := (A0).rules; have rlA0 := (A0).lt
    go_wp2_with fail
    go_ret
    exact ⟨rfl, E⟩
  have Hs := Lib.hid (szI_pos hbig)
  have hn0 : n0 ≤ 1048576 := by omega
  have hm0 : m0 ≤ 1048576 := by omega
  have hr0 : r0 ≤ 1048576 := by omega
  go_enter Try.func4, Try.ntmps4
  go_wp2_with fail
  obtain ⟨w1, hw1, A0, hs1, hb1⟩ := one_box w #[.slice a0 n0 cap0, .slice c0 m0 cb0] 24
  rw [← hw1.out]
  have E := hb1
  have qw1 := (hb1).size
  clear hb1
  obtain ⟨rcA0, rzA0⟩ := (A0).rules; have rlA0 := (A0).lt
  go_wp2_with fail
  refine (laws_szProject a0 n0 cap0 c0 m0 cb0 _ _ (by omega) (by omega) (by omega) (by omega)).mono ?_
  rintro e w2 ⟨rfl, hb2⟩
  clear rcA0 rzA0 rlA0
  have A0 := A0.ext hb2
  have E := ext_trans E hb2
  have qw2 := (hb2).size
  clear hb2
  rw [Hs.out]
  obtain ⟨rcA0, rzA0⟩ := (A0).rules; have rlA0 := (A0).lt
  go_wp2_with fail
  obtain ⟨p, hp⟩ : ∃ p : Pj, Hid (p = ⟨l0, t0⟩) := ⟨_, rfl⟩
  have hpl : Hid (p.lo = l0) := by rw [hp.out]; exact Lib.hid rfl
  have hpt : Hid (p.af = t0) := by rw [hp.out]; exact Lib.hid rfl
  obtain ⟨P, hP⟩ : ∃ P, Hid (P = p.idleOf x1 u0) := ⟨_, rfl⟩
  refine (laws_toProject a0 n0 cap0 l0 c0 m0 cb0 t0 _ (H.out.ext E) (K.out.ext E) hn0 hm0).mono ?_
  rintro e w3 ⟨vT1, vT2, rfl, hT1, hT2, hdT1, hb3⟩
  clear rcA0 rzA0 rlA0
  have A0 := A0.ext hb3
  have E := ext_trans E hb3
  have qw3 := (hb3).size
  clear hb3
  obtain ⟨aT1, cT1, rfl, -⟩ := hT1.open
  have T1 := Lib.hid hT1
  clear hT1
  have BT1 := Lib.hid T1.out.lt
  obtain ⟨aT2, cT2, rfl, -⟩ := hT2.open
  have T2 := Lib.hid hT2
  clear hT2
  have BT2 := Lib.hid T2.out.lt
  obtain ⟨rcA0, rzA0⟩ := (A0).rules; have rlA0 := (A0).lt
  go_wp2_with fail
  clear hdT1
  refine (laws_toIntS d0 r0 cd0 u0 _ (J.out.ext E) hr0).mono ?_
  rintro e w4 ⟨vS, rfl, hS, hb4⟩
  clear rcA0 rzA0 rlA0
  have A0 := A0.ext hb4
  have T1 := Lib.hid (T1.out.ext hb4)
  have T2 := Lib.hid (T2.out.ext hb4)
  have E := ext_trans E hb4
  have qw4 := (hb4).size
  clear hb4
  obtain ⟨aS, cS, rfl, -⟩ := hS.open
  have S := Lib.hid hS
  clear hS
  have BS := Lib.hid S.out.lt
  obtain ⟨rcA0, rzA0⟩ := (A0).rules; have rlA0 := (A0).lt
  go_wp2_with fail
  refine (spec_IdleOf p _ _ _ x1 u0 _ (by rw [hpl.out]; exact T1.out.base (Nat.zero_le _)) (by rw [hpt.out]; exact T2.out.base (Nat.zero_le _)) (S.out.base (Nat.zero_le _))).mono ?_
  rintro e w5 ⟨rfl, hb5⟩
  clear rcA0 rzA0 rlA0
  have A0 := A0.ext hb5
  have T1 := Lib.hid (T1.out.ext hb5)
  have T2 := Lib.hid (T2.out.ext hb5)
  have S := Lib.hid (S.out.ext hb5)
  have E := ext_trans E hb5
  have qw5 := (hb5).size
  clear hb5
  rw [← hP.out]
  obtain ⟨rcA0, rzA0⟩ := (A0).rules; have rlA0 := (A0).lt
  go_wp2_with fail
  clear T1 T2 BT1 BT2 S BS
  refine (laws_toProject a0 n0 cap0 l0 c0 m0 cb0 t0 _ (H.out.ext E) (K.out.ext E) hn0 hm0).mono ?_
  rintro e w6 ⟨vX1, vX2, rfl, hX1, hX2, hdX1, hb6⟩
  clear rcA0 rzA0 rlA0
  have A0 := A0.ext hb6
  have E := ext_trans E hb6
  have qw6 := (hb6).size
  clear hb6
  obtain ⟨aX1, cX1, rfl, -⟩ := hX1.open
  have X1 := Lib.hid hX1
  clear hX1
  have BX1 := Lib.hid X1.out.lt
  obtain ⟨aX2, cX2, rfl, -⟩ := hX2.open
  have X2 := Lib.hid hX2
  clear hX2
  have BX2 := Lib.hid X2.out.lt
  obtain ⟨rcA0, rzA0⟩ := (A0).rules; have rlA0 := (A0).lt
  clear hdX1
  go_wp2_with fail
  obtain ⟨w7, hw7, Xb, hs7, hb7⟩ := one_box w6 #[.slice aX1 l0.length cX1, .slice aX2 t0.length cX2] 27
  rw [← hw7.out]
  clear rcA0 rzA0 rlA0
  have A0 := A0.ext hb7
  have X1 := Lib.hid (X1.out.ext hb7)
  have X2 := Lib.hid (X2.out.ext hb7)
  have E := ext_trans E hb7
  have qw7 := (hb7).size
  clear hb7
  obtain ⟨rcA0, rzA0⟩ := (A0).rules; have rlA0 := (A0).lt
  obtain ⟨rcXb, rzXb⟩ := (Xb).rules; have rlXb := (Xb).lt
  go_wp2_with fail
  refine (laws_toIntS d0 r0 cd0 u0 _ (J.out.ext E) hr0).mono ?_
  rintro e w8 ⟨vR, rfl, hR, hb8⟩
  clear rcA0 rzA0 rlA0 rcXb rzXb rlXb
  have A0 := A0.ext hb8
  have Xb := Xb.ext hb8
  have X1 := Lib.hid (X1.out.ext hb8)
  have X2 := Lib.hid (X2.out.ext hb8)
  have E := ext_trans E hb8
  have qw8 := (hb8).size
  clear hb8
  obtain ⟨aR, cR, rfl, -⟩ := hR.open
  have R := Lib.hid hR
  clear hR
  have BR := Lib.hid R.out.lt
  obtain ⟨rcA0, rzA0⟩ := (A0).rules; have rlA0 := (A0).lt
  obtain ⟨rcXb, rzXb⟩ := (Xb).rules; have rlXb := (Xb).lt
  go_wp2_with fail
  refine (impl_IdleOf p _ _ _ x1 u0 _ (by rw [hpl.out]; exact X1.out.base (Nat.zero_le _)) (by rw [hpt.out]; exact X2.out.base (Nat.zero_le _)) (R.out.base (Nat.zero_le _))).mono ?_
  rintro e w9 ⟨rfl, hb9⟩
  clear rcA0 rzA0 rlA0 rcXb rzXb rlXb
  have A0 := A0.ext hb9
  have Xb := Xb.ext hb9
  have X1 := Lib.hid (X1.out.ext hb9)
  have X2 := Lib.hid (X2.out.ext hb9)
  have R := Lib.hid (R.out.ext hb9)
  have E := ext_trans E hb9
  have qw9 := (hb9).size
  clear hb9
  rw [← hP.out]
  obtain ⟨rcA0, rzA0⟩ := (A0).rules; have rlA0 := (A0).lt
  obtain ⟨rcXb, rzXb⟩ := (Xb).rules; have rlXb := (Xb).lt
  go_wp2_with fail
  go_region_held3 (fun w' => w'.cell? ⟨w.heap.size, 0, none⟩ = some (Value.slice a0 n0 cap0) ∧ w'.cell? ⟨w.heap.size, 1, none⟩ = some (Value.slice c0 m0 cb0) ∧ w'.cell? ⟨w6.heap.size, 0, none⟩ = some (Value.slice aX1 l0.length cX1) ∧ w'.cell? ⟨w6.heap.size, 1, none⟩ = some (Value.slice aX2 t0.length cX2))
    (first | exact ⟨A0.cell0 rfl, A0.cell0 rfl, Xb.cell0 rfl, Xb.cell0 rfl⟩ | exact ⟨A0a10.cell0 rfl, A0a10.cell0 rfl, Xba10.cell0 rfl, Xba10.cell0 rfl⟩ | exact ⟨A0b10.cell0 rfl, A0b10.cell0 rfl, Xbb10.cell0 rfl, Xbb10.cell0 rfl⟩)
    (first | (go_at_call 11
              refine (laws_toProject a0 n0 cap0 l0 c0 m0 cb0 t0 _ (H.out.ext (ext_trans E (ext_drew (ext_refl w9)))) (K.out.ext (ext_trans E (ext_drew (ext_refl w9)))) hn0 hm0).mono ?_
              rintro e wa10 ⟨vY1, vY2, rfl, hY1, hY2, hdY, hba10⟩
              obtain ⟨aY1, cY1, rfl, -⟩ := hY1.open
              obtain ⟨aY2, cY2, rfl, -⟩ := hY2.open
              have A0a10 := A0.ext (ext_trans (ext_drew (ext_refl w9)) hba10)
              have Xba10 := Xb.ext (ext_trans (ext_drew (ext_refl w9)) hba10)
              have Y1a10 := hY1
              have Y2a10 := hY2
              have Ha10 := ext_trans (ext_drew (ext_refl w9)) hba10)
           | (go_at_call 14
              refine (laws_eqProject _ _ _ _ l0 t0 l0 t0 _ ((X1.out.ext Ha10).base (Nat.zero_le _)) ((X2.out.ext Ha10).base (Nat.zero_le _)) (Y1a10.base (Nat.zero_le _)) (Y2a10.base (Nat.zero_le _))).mono ?_
              rintro e wb10 ⟨rfl, hbb10⟩
              rw [show (decide (l0 = l0) && decide (t0 = t0)) = true by simp]
              have A0b10 := A0.ext (ext_trans Ha10 hbb10)
              have Xbb10 := Xb.ext (ext_trans Ha10 hbb10)
              have Y1b10 := Y1a10.ext hbb10
              have Y2b10 := Y2a10.ext hbb10
              have Hb10 := ext_trans Ha10 hbb10))
  clear rcA0 rzA0 rlA0 rcXb rzXb rlXb
  have A0 := A0.ext Hb10
  have Xb := Xb.ext Hb10
  have X1 := Lib.hid (X1.out.ext Hb10)
  have X2 := Lib.hid (X2.out.ext Hb10)
  have R := Lib.hid (R.out.ext Hb10)
  have E := ext_trans E Hb10
  have Y1 := Lib.hid Y1b10
  have Y2 := Lib.hid Y2b10
  have qwb10 := (Hb10).size
  clear A0a10 Xba10 A0b10 Xbb10 hba10 hbb10 Ha10 Hb10
  obtain ⟨rcA0, rzA0⟩ := (A0).rules; have rlA0 := (A0).lt
  obtain ⟨rcXb, rzXb⟩ := (Xb).rules; have rlXb := (Xb).lt
  clear rcA0 rzA0 rlA0 rcXb rzXb rlXb
  obtain ⟨rcA0, rzA0⟩ := (A0).rules; have rlA0 := (A0).lt
  obtain ⟨rcXb, rzXb⟩ := (Xb).rules; have rlXb := (Xb).lt
  go_wp2_with fail
  refine (laws_toIntS d0 r0 cd0 u0 _ (J.out.ext E) hr0).mono ?_
  rintro e w11 ⟨vZ, rfl, hZ, hb11⟩
  clear rcA0 rzA0 rlA0 rcXb rzXb rlXb
  have A0 := A0.ext hb11
  have Xb := Xb.ext hb11
  have X1 := Lib.hid (X1.out.ext hb11)
  have X2 := Lib.hid (X2.out.ext hb11)
  have R := Lib.hid (R.out.ext hb11)
  have E := ext_trans E hb11
  have qw11 := (hb11).size
  clear hb11
  obtain ⟨aZ, cZ, rfl, -⟩ := hZ.open
  have Z := Lib.hid hZ
  clear hZ
  have BZ := Lib.hid Z.out.lt
  obtain ⟨rcA0, rzA0⟩ := (A0).rules; have rlA0 := (A0).lt
  obtain ⟨rcXb, rzXb⟩ := (Xb).rules; have rlXb := (Xb).lt
  go_wp2_with fail
  refine (laws_eqIntS _ _ u0 u0 _ (R.out.base (Nat.zero_le _)) (Z.out.base (Nat.zero_le _))).mono ?_
  rintro e w12 ⟨rfl, hb12⟩
  clear rcA0 rzA0 rlA0 rcXb rzXb rlXb
  have A0 := A0.ext hb12
  have Xb := Xb.ext hb12
  have X1 := Lib.hid (X1.out.ext hb12)
  have X2 := Lib.hid (X2.out.ext hb12)
  have R := Lib.hid (R.out.ext hb12)
  have Z := Lib.hid (Z.out.ext hb12)
  have E := ext_trans E hb12
  have qw12 := (hb12).size
  clear hb12
  rw [decide_eq_true rfl]
  obtain ⟨rcA0, rzA0⟩ := (A0).rules; have rlA0 := (A0).lt
  obtain ⟨rcXb, rzXb⟩ := (Xb).rules; have rlXb := (Xb).lt
  go_wp2_with fail
  go_ret
  exact ⟨rfl, E⟩
end Go.Proofs.Ytdfcjhcnojgkiaa
