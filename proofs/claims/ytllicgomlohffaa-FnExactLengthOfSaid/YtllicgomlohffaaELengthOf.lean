/- The walk of FnExactLengthOf: it returns true, whatever project came in. No condition. -/
import Derived.Test.YtllicgomlohffaaEarlyOf
import Derived.Test.YtllicgomlohffaaLawInts
namespace Go.Proofs.Ytllicgomlohffaa
open Go.RowKit
set_option linter.unusedVariables false
set_option linter.unusedSimpArgs false
set_option maxRecDepth 100000 in
set_option maxHeartbeats 8000000 in
theorem walk_ExactLengthOf (a0 : Option Addr) (n0 cap0 : Nat) (l0 : List Int) (c0 : Option Addr) (m0 cb0 : Nat) (t0 : List Int) (w : World) (h0 : AInts w a0 n0 cap0 l0) (k0 : AInts w c0 m0 cb0 t0) :
    Calls Try.prog 3 #[.agg #[.slice a0 n0 cap0, .slice c0 m0 cb0]] w fun e w' => e = .returned (.bool true) ∧ Below w.heap.size w w' := by
  obtain ⟨hl0, hcap0, hmax0, -⟩ := id h0
  obtain ⟨kl0, kcap0, kmax0, -⟩ := id k0
  have H := Lib.hid h0; have K := Lib.hid k0
  have HL := Lib.hid hl0; have KL := Lib.hid kl0
  clear h0 k0 hl0 kl0
  by_cases hbig : (1048576 : Int) - ((n0 + m0 : Nat) : Int) < 0
  · have Hs := Lib.hid (szI_neg hbig)
    go_enter Try.func3, Try.ntmps3
    go_wp2_with fail
    obtain ⟨w1, hw1, A0, hs1, hb1⟩ := one_box w #[.slice a0 n0 cap0, .slice c0 m0 cb0] 24
    rw [← hw1.out]
    have E := hb1
    clear hb1
    obtain ⟨rcA0, rzA0⟩ := (A0).rules; have rlA0 := (A0).lt
    go_wp2_with fail
    refine (laws_szProject a0 n0 cap0 c0 m0 cb0 _ _ (by omega) (by omega) (by omega) (by omega)).mono ?_
    rintro e w2 ⟨rfl, hb2⟩
    have A0 := A0.ext hb2
    have E := ext_trans E hb2
    clear hb2
    rw [Hs.out]
    obtain ⟨rcA0, rzA0⟩ := (A0).rules; have rlA0 := (A0).lt
    go_wp2_with fail
    go_ret
    exact ⟨rfl, E⟩
  have Hs := Lib.hid (szI_pos hbig)
  have hn0 : n0 ≤ 1048576 := by omega
  have hm0 : m0 ≤ 1048576 := by omega
  go_enter Try.func3, Try.ntmps3
  go_wp2_with fail
  obtain ⟨w1, hw1, A0, hs1, hb1⟩ := one_box w #[.slice a0 n0 cap0, .slice c0 m0 cb0] 24
  rw [← hw1.out]
  have E := hb1
  have qw1 := (hb1).size
  clear hb1
  obtain ⟨rcA0, rzA0⟩ := (A0).rules; have rlA0 := (A0).lt
  go_wp2_with fail
  refine (laws_szProject a0 n0 cap0 c0 m0 cb0 _ _ (by omega) (by omega) (by omega) (by omega)).mono ?_
  rintro e w2 ⟨rfl, hb2⟩
  have A0 := A0.ext hb2
  have E := ext_trans E hb2
  have qw2 := (hb2).size
  clear hb2
  rw [Hs.out]
  obtain ⟨rcA0, rzA0⟩ := (A0).rules; have rlA0 := (A0).lt
  go_wp2_with fail
  obtain ⟨p, hp⟩ : ∃ p : Pj, Hid (p = ⟨l0, t0⟩) := ⟨_, rfl⟩
  have hpl : Hid (p.lo = l0) := by rw [hp.out]; exact Lib.hid rfl
  have hpt : Hid (p.af = t0) := by rw [hp.out]; exact Lib.hid rfl
  refine (laws_toProject a0 n0 cap0 l0 c0 m0 cb0 t0 _ (H.out.ext E) (K.out.ext E) hn0 hm0).mono ?_
  rintro e w3 ⟨vT1, vT2, rfl, hT1, hT2, hdT1, hb3⟩
  have A0 := A0.ext hb3
  have E := ext_trans E hb3
  have qw3 := (hb3).size
  clear hb3
  obtain ⟨aT1, cT1, rfl, -⟩ := hT1.open
  have T1 := Lib.hid hT1
  clear hT1
  have BT1 := Lib.hid T1.out.lt
  obtain ⟨aT2, cT2, rfl, -⟩ := hT2.open
  have T2 := Lib.hid hT2
  clear hT2
  have BT2 := Lib.hid T2.out.lt
  obtain ⟨rcA0, rzA0⟩ := (A0).rules; have rlA0 := (A0).lt
  go_wp2_with fail
  have DT1 := Lib.hid hdT1
  clear hdT1
  refine (spec_LengthOf p _ _ _ (by rw [hpl.out]; exact T1.out.base (Nat.zero_le _)) (by rw [hpt.out]; exact T2.out.base (Nat.zero_le _))).mono ?_
  rintro e w4 ⟨rfl, hb4⟩
  have A0 := A0.ext hb4
  have T1 := Lib.hid (T1.out.ext hb4)
  have T2 := Lib.hid (T2.out.ext hb4)
  have E := ext_trans E hb4
  have qw4 := (hb4).size
  clear hb4
  obtain ⟨rcA0, rzA0⟩ := (A0).rules; have rlA0 := (A0).lt
  go_wp2_with fail
  clear T1 T2 BT1 BT2 DT1
  refine (laws_toProject a0 n0 cap0 l0 c0 m0 cb0 t0 _ (H.out.ext E) (K.out.ext E) hn0 hm0).mono ?_
  rintro e w5 ⟨vX1, vX2, rfl, hX1, hX2, hdX1, hb5⟩
  have A0 := A0.ext hb5
  have E := ext_trans E hb5
  have qw5 := (hb5).size
  clear hb5
  obtain ⟨aX1, cX1, rfl, -⟩ := hX1.open
  have X1 := Lib.hid hX1
  clear hX1
  have BX1 := Lib.hid X1.out.lt
  obtain ⟨aX2, cX2, rfl, -⟩ := hX2.open
  have X2 := Lib.hid hX2
  clear hX2
  have BX2 := Lib.hid X2.out.lt
  obtain ⟨rcA0, rzA0⟩ := (A0).rules; have rlA0 := (A0).lt
  have DX1 := Lib.hid hdX1
  clear hdX1
  go_wp2_with fail
  obtain ⟨w6, hw6, Xb, hs6, hb6⟩ := one_box w5 #[.slice aX1 l0.length cX1, .slice aX2 t0.length cX2] 27
  rw [← hw6.out]
  have A0 := A0.ext hb6
  have X1 := Lib.hid (X1.out.ext hb6)
  have X2 := Lib.hid (X2.out.ext hb6)
  have E := ext_trans E hb6
  have qw6 := (hb6).size
  clear hb6
  obtain ⟨rcA0, rzA0⟩ := (A0).rules; have rlA0 := (A0).lt
  obtain ⟨rcXb, rzXb⟩ := (Xb).rules; have rlXb := (Xb).lt
  go_wp2_with fail
  refine (impl_LengthOf p _ _ _ (by rw [hpl.out]; exact X1.out.base (Nat.zero_le _)) (by rw [hpt.out]; exact X2.out.base (Nat.zero_le _))).mono ?_
  rintro e w7 ⟨rfl, hb7⟩
  have A0 := A0.ext hb7
  have Xb := Xb.ext hb7
  have X1 := Lib.hid (X1.out.ext hb7)
  have X2 := Lib.hid (X2.out.ext hb7)
  have E := ext_trans E hb7
  have qw7 := (hb7).size
  clear hb7
  obtain ⟨rcA0, rzA0⟩ := (A0).rules; have rlA0 := (A0).lt
  obtain ⟨rcXb, rzXb⟩ := (Xb).rules; have rlXb := (Xb).lt
  go_wp2_with fail
  go_region_held3 (fun w' => w'.cell? ⟨w.heap.size, 0, none⟩ = some (Value.slice a0 n0 cap0) ∧ w'.cell? ⟨w.heap.size, 1, none⟩ = some (Value.slice c0 m0 cb0) ∧ w'.cell? ⟨w5.heap.size, 0, none⟩ = some (Value.slice aX1 l0.length cX1) ∧ w'.cell? ⟨w5.heap.size, 1, none⟩ = some (Value.slice aX2 t0.length cX2))
    (first | exact ⟨A0.cell0 rfl, A0.cell0 rfl, Xb.cell0 rfl, Xb.cell0 rfl⟩ | exact ⟨A0a8.cell0 rfl, A0a8.cell0 rfl, Xba8.cell0 rfl, Xba8.cell0 rfl⟩ | exact ⟨A0b8.cell0 rfl, A0b8.cell0 rfl, Xbb8.cell0 rfl, Xbb8.cell0 rfl⟩)
    (first | (go_at_call 16
              refine (laws_toProject a0 n0 cap0 l0 c0 m0 cb0 t0 _ (H.out.ext (ext_trans E (ext_drew (ext_refl w7)))) (K.out.ext (ext_trans E (ext_drew (ext_refl w7)))) hn0 hm0).mono ?_
              rintro e wa8 ⟨vY1, vY2, rfl, hY1, hY2, hdY, hba8⟩
              obtain ⟨aY1, cY1, rfl, -⟩ := hY1.open
              obtain ⟨aY2, cY2, rfl, -⟩ := hY2.open
              have A0a8 := A0.ext (ext_trans (ext_drew (ext_refl w7)) hba8)
              have Xba8 := Xb.ext (ext_trans (ext_drew (ext_refl w7)) hba8)
              have Y1a8 := hY1
              have Y2a8 := hY2
              have Ha8 := ext_trans (ext_drew (ext_refl w7)) hba8)
           | (go_at_call 18
              refine (laws_eqProject _ _ _ _ l0 t0 l0 t0 _ ((X1.out.ext Ha8).base (Nat.zero_le _)) ((X2.out.ext Ha8).base (Nat.zero_le _)) (Y1a8.base (Nat.zero_le _)) (Y2a8.base (Nat.zero_le _))).mono ?_
              rintro e wb8 ⟨rfl, hbb8⟩
              rw [show (decide (l0 = l0) && decide (t0 = t0)) = true by simp]
              have A0b8 := A0.ext (ext_trans Ha8 hbb8)
              have Xbb8 := Xb.ext (ext_trans Ha8 hbb8)
              have Y1b8 := Y1a8.ext hbb8
              have Y2b8 := Y2a8.ext hbb8
              have Hb8 := ext_trans Ha8 hbb8))
  have A0 := A0.ext Hb8
  have Xb := Xb.ext Hb8
  have X1 := Lib.hid (X1.out.ext Hb8)
  have X2 := Lib.hid (X2.out.ext Hb8)
  have E := ext_trans E Hb8
  have Y1 := Lib.hid Y1b8
  have Y2 := Lib.hid Y2b8
  have qwb8 := (Hb8).size
  clear A0a8 Xba8 A0b8 Xbb8 hba8 hbb8 Ha8 Hb8
  obtain ⟨rcA0, rzA0⟩ := (A0).rules; have rlA0 := (A0).lt
  obtain ⟨rcXb, rzXb⟩ := (Xb).rules; have rlXb := (Xb).lt
  obtain ⟨rcA0, rzA0⟩ := (A0).rules; have rlA0 := (A0).lt
  obtain ⟨rcXb, rzXb⟩ := (Xb).rules; have rlXb := (Xb).lt
  go_wp2_with fail
  go_ret
  exact ⟨rfl, E⟩
end Go.Proofs.Ytllicgomlohffaa
