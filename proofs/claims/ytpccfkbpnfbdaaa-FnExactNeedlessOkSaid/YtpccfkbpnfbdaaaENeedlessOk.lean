/- The walk of FnExactNeedlessOk: it returns true, whatever plan came in. No condition. -/
import Derived.Test.YtpccfkbpnfbdaaaNeedless
import Derived.Test.YtpccfkbpnfbdaaaLawPlan
namespace Go.Proofs.Ytpccfkbpnfbdaaa
open Go.RowKit
set_option linter.unusedVariables false
set_option linter.unusedSimpArgs false
set_option maxRecDepth 100000 in
set_option maxHeartbeats 8000000 in
theorem walk_ExactNeedlessOk (pts0 : Int) (a0 : Option Addr) (n0 cap0 : Nat) (l0 : List Bd) (x1 : Int) (w : World) (h0 : ABds w a0 n0 cap0 l0) :
    Calls Try.prog 3 #[.agg #[.int .i64 pts0, .slice a0 n0 cap0], .int .i64 x1] w fun e w' => e = .returned (.bool true) ∧ Below w.heap.size w w' := by
  obtain ⟨hl0, hcap0, hmax0, -⟩ := id h0
  have H := Lib.hid h0
  have HL := Lib.hid hl0
  clear h0 hl0
  by_cases hbig : (1048576 : Int) - n0 < 0
  · have Hs := Lib.hid (szR_neg hbig)
    go_enter Try.func3, Try.ntmps3
    go_wp2_with fail
    obtain ⟨w1, hw1, A0, hs1, hb1⟩ := one_box w #[.int .i64 pts0, .slice a0 n0 cap0] 24
    rw [← hw1.out]
    have E := hb1
    clear hb1
    obtain ⟨rcA0, rzA0⟩ := (A0).rules; have rlA0 := (A0).lt
    go_wp2_with fail
    refine (laws_szPlan pts0 a0 n0 cap0 _ _ (by omega) (by omega) (by omega)).mono ?_
    rintro e w2 ⟨rfl, hb2⟩
    clear rcA0 rzA0 rlA0
    have A0 := A0.ext hb2
    have E := ext_trans E hb2
    clear hb2
    rw [Hs.out]
    obtain ⟨rcA0, rzA0⟩ := (A0).rules; have rlA0 := (A0).lt
    go_wp2_with fail
    go_ret
    exact ⟨rfl, E⟩
  have Hs := Lib.hid (szR_pos hbig)
  have hn0 : n0 ≤ 1048576 := by omega
  go_enter Try.func3, Try.ntmps3
  go_wp2_with fail
  obtain ⟨w1, hw1, A0, hs1, hb1⟩ := one_box w #[.int .i64 pts0, .slice a0 n0 cap0] 24
  rw [← hw1.out]
  have E := hb1
  have qw1 := (hb1).size
  clear hb1
  obtain ⟨rcA0, rzA0⟩ := (A0).rules; have rlA0 := (A0).lt
  go_wp2_with fail
  refine (laws_szPlan pts0 a0 n0 cap0 _ _ (by omega) (by omega) (by omega)).mono ?_
  rintro e w2 ⟨rfl, hb2⟩
  clear rcA0 rzA0 rlA0
  have A0 := A0.ext hb2
  have E := ext_trans E hb2
  have qw2 := (hb2).size
  clear hb2
  rw [Hs.out]
  obtain ⟨rcA0, rzA0⟩ := (A0).rules; have rlA0 := (A0).lt
  go_wp2_with fail
  obtain ⟨p, hp⟩ : ∃ p : Pl, Hid (p = ⟨pts0, l0⟩) := ⟨_, rfl⟩
  have hpp : Hid (pts0 = p.pts) := by rw [hp.out]; exact Lib.hid rfl
  have hpl : Hid (l0 = p.bs) := by rw [hp.out]; exact Lib.hid rfl
  have hlen : p.bs.length ≤ 1048576 := by rw [← hpl.out]; have := HL.out; omega
  obtain ⟨P, hP⟩ : ∃ P, Hid (P = p.needless x1) := ⟨_, rfl⟩
  refine (laws_toPlan pts0 a0 n0 cap0 l0 _ (H.out.ext E) hn0).mono ?_
  rintro e w3 ⟨vT, rfl, hT, hb3⟩
  clear rcA0 rzA0 rlA0
  have A0 := A0.ext hb3
  have E := ext_trans E hb3
  have qw3 := (hb3).size
  clear hb3
  obtain ⟨aT, cT, rfl, -⟩ := hT.open
  have T := Lib.hid hT
  clear hT
  have BT := Lib.hid T.out.lt
  obtain ⟨rcA0, rzA0⟩ := (A0).rules; have rlA0 := (A0).lt
  go_wp2_with fail
  refine ((show Calls Try.prog 10 #[.agg #[.int .i64 pts0, .slice aT l0.length cT], .int .i64 x1] _ _ by have hr := T.out.base (Nat.zero_le _); rw [hpl.out] at hr ⊢; rw [hpp.out]; exact spec_NeedlessOk p x1 _ _ hr (by omega))).mono ?_
  rintro e w4 ⟨rfl, hb4⟩
  clear rcA0 rzA0 rlA0
  have A0 := A0.ext hb4
  have T := Lib.hid (T.out.ext hb4)
  have E := ext_trans E hb4
  have qw4 := (hb4).size
  clear hb4
  rw [← hP.out]
  obtain ⟨rcA0, rzA0⟩ := (A0).rules; have rlA0 := (A0).lt
  go_wp2_with fail
  clear T BT
  refine (laws_toPlan pts0 a0 n0 cap0 l0 _ (H.out.ext E) hn0).mono ?_
  rintro e w5 ⟨vX, rfl, hX, hb5⟩
  clear rcA0 rzA0 rlA0
  have A0 := A0.ext hb5
  have E := ext_trans E hb5
  have qw5 := (hb5).size
  clear hb5
  obtain ⟨aX, cX, rfl, -⟩ := hX.open
  have X := Lib.hid hX
  clear hX
  have BX := Lib.hid X.out.lt
  obtain ⟨rcA0, rzA0⟩ := (A0).rules; have rlA0 := (A0).lt
  go_wp2_with fail
  obtain ⟨w6, hw6, Xb, hs6, hb6⟩ := one_box w5 #[.int .i64 pts0, .slice aX l0.length cX] 29
  rw [← hw6.out]
  clear rcA0 rzA0 rlA0
  have A0 := A0.ext hb6
  have X := Lib.hid (X.out.ext hb6)
  have E := ext_trans E hb6
  have qw6 := (hb6).size
  clear hb6
  obtain ⟨rcA0, rzA0⟩ := (A0).rules; have rlA0 := (A0).lt
  obtain ⟨rcXb, rzXb⟩ := (Xb).rules; have rlXb := (Xb).lt
  go_wp2_with fail
  refine ((show Calls Try.prog 12 #[.agg #[.int .i64 pts0, .slice aX l0.length cX], .int .i64 x1] _ _ by have hr := X.out.base (Nat.zero_le _); rw [hpl.out] at hr ⊢; rw [hpp.out]; exact impl_NeedlessOk p x1 _ _ hr (by omega))).mono ?_
  rintro e w7 ⟨rfl, hb7⟩
  clear rcA0 rzA0 rlA0 rcXb rzXb rlXb
  have A0 := A0.ext hb7
  have Xb := Xb.ext hb7
  have X := Lib.hid (X.out.ext hb7)
  have E := ext_trans E hb7
  have qw7 := (hb7).size
  clear hb7
  rw [← hP.out]
  obtain ⟨rcA0, rzA0⟩ := (A0).rules; have rlA0 := (A0).lt
  obtain ⟨rcXb, rzXb⟩ := (Xb).rules; have rlXb := (Xb).lt
  go_wp2_with fail
  go_region_held3 (fun w' => w'.cell? ⟨w.heap.size, 0, none⟩ = some (Value.int .i64 pts0) ∧ w'.cell? ⟨w.heap.size, 1, none⟩ = some (Value.slice a0 n0 cap0) ∧ w'.cell? ⟨w5.heap.size, 0, none⟩ = some (Value.int .i64 pts0) ∧ w'.cell? ⟨w5.heap.size, 1, none⟩ = some (Value.slice aX l0.length cX))
    (first | exact ⟨A0.cell0 rfl, A0.cell0 rfl, Xb.cell0 rfl, Xb.cell0 rfl⟩ | exact ⟨A0a8.cell0 rfl, A0a8.cell0 rfl, Xba8.cell0 rfl, Xba8.cell0 rfl⟩ | exact ⟨A0b8.cell0 rfl, A0b8.cell0 rfl, Xbb8.cell0 rfl, Xbb8.cell0 rfl⟩)
    (first | (go_at_call 11
              refine (laws_toPlan pts0 a0 n0 cap0 l0 _ (H.out.ext (ext_trans E (ext_drew (ext_refl w7)))) hn0).mono ?_
              rintro e wa8 ⟨vY, rfl, hY, hba8⟩
              obtain ⟨aY, cY, rfl, -⟩ := hY.open
              have A0a8 := A0.ext (ext_trans (ext_drew (ext_refl w7)) hba8)
              have Xba8 := Xb.ext (ext_trans (ext_drew (ext_refl w7)) hba8)
              have Ya8 := hY
              have Ha8 := ext_trans (ext_drew (ext_refl w7)) hba8)
           | (go_at_call 13
              refine (laws_eqPlan ⟨pts0, l0⟩ ⟨pts0, l0⟩ _ _ _ ((X.out.ext Ha8).base (Nat.zero_le _)) (Ya8.base (Nat.zero_le _))).mono ?_
              rintro e wb8 ⟨rfl, hbb8⟩
              rw [decide_eq_true rfl]
              have A0b8 := A0.ext (ext_trans Ha8 hbb8)
              have Xbb8 := Xb.ext (ext_trans Ha8 hbb8)
              have Yb8 := Ya8.ext hbb8
              have Hb8 := ext_trans Ha8 hbb8))
  clear rcA0 rzA0 rlA0 rcXb rzXb rlXb
  have A0 := A0.ext Hb8
  have Xb := Xb.ext Hb8
  have X := Lib.hid (X.out.ext Hb8)
  have E := ext_trans E Hb8
  have Y := Lib.hid Yb8
  have qwb8 := (Hb8).size
  clear A0a8 Xba8 A0b8 Xbb8 hba8 hbb8 Ha8 Hb8
  obtain ⟨rcA0, rzA0⟩ := (A0).rules; have rlA0 := (A0).lt
  obtain ⟨rcXb, rzXb⟩ := (Xb).rules; have rlXb := (Xb).lt
  clear rcA0 rzA0 rlA0 rcXb rzXb rlXb
  obtain ⟨rcA0, rzA0⟩ := (A0).rules; have rlA0 := (A0).lt
  obtain ⟨rcXb, rzXb⟩ := (Xb).rules; have rlXb := (Xb).lt
  go_wp2_with fail
  go_ret
  exact ⟨rfl, E⟩
end Go.Proofs.Ytpccfkbpnfbdaaa
