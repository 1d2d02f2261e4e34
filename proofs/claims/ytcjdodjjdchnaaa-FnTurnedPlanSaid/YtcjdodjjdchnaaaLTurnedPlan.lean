/- The walk of FnTurnedPlan: it returns true, whatever code came in. Condition: the bytes of the code can be read. -/
import Derived.Test.YtcjdodjjdchnaaaDrawn
import Derived.Test.YtcjdodjjdchnaaaSame
import Derived.Test.YtcjdodjjdchnaaaPlanTurn
namespace Go.Proofs.Ytcjdodjjdchnaaa
open Go.RowKit
set_option linter.unusedVariables false
set_option linter.unusedSimpArgs false
theorem turn_ok (p : Pl) (h : p.ok = true) : p.turned.ok = true := by
  unfold Pl.turned
  rw [if_pos h]
  simp only [Pl.ok, Bool.and_eq_true, decide_eq_true_eq, List.all_eq_true] at *
  obtain ⟨h1, h2, h3⟩ := h
  refine ⟨h1, by simpa using h2, fun b hb => ?_⟩
  simp only [List.mem_map] at hb
  obtain ⟨c, hc, rfl⟩ := hb
  have := h3 c hc
  simp only [Bd.ok, Bd.turn, Bool.and_eq_true] at *
  exact ⟨this.2.1, this.1, this.2.2⟩
theorem turn_turn (p : Pl) (h : p.ok = true) : p.turned.turned = p := by
  have h2 := turn_ok p h
  have e : p.turned = ⟨p.pts, p.bs.map Bd.turn⟩ := by unfold Pl.turned; rw [if_pos h]
  rw [e] at h2 ⊢
  unfold Pl.turned
  rw [if_pos h2]
  obtain ⟨pts, bs⟩ := p
  simp [Function.comp_def, Bd.turn]
theorem turn_not (p : Pl) (h : p.ok = false) : p.turned = Pl.zero := by unfold Pl.turned; rw [if_neg (by simp [h])]
theorem turn_length (p : Pl) : p.turned.bs.length ≤ p.bs.length := by unfold Pl.turned; split <;> simp [Pl.zero]
set_option maxRecDepth 100000 in
set_option maxHeartbeats 8000000 in
theorem walk_TurnedPlan (a : Option Addr) (n cap : Nat) (w : World) (h : Byt w w.heap.size a n cap) :
    Calls Try.prog 3 #[.slice a n cap] w fun e w' => e = .returned (.bool true) ∧ Below w.heap.size w w' := by
  have H := Lib.hid h
  obtain ⟨hncap, hcap, -⟩ := id h
  clear h
  by_cases hbig : 1048576 < n
  · go_enter Try.func3, Try.ntmps3
    go_wp2_with fail
    go_ret
    exact ⟨rfl, ext_refl _⟩
  go_enter Try.func3, Try.ntmps3
  go_wp2_with fail
  refine (spec_DrawTurnedPlan a n cap w H.out).mono ?_
  rintro e w1 ⟨bs, p, rfl, hV, hl, h0, h7, hb1⟩
  have E := hb1
  clear hb1
  obtain ⟨av, cv, rfl, -⟩ := hV.open
  have V := Lib.hid hV
  clear hV
  go_wp2_with fail
  obtain ⟨w2, hw2, A0, hs2, hb2⟩ := one_box w1 #[.int .i64 p.pts, .slice av p.bs.length cv] 25
  rw [← hw2.out]
  have V := Lib.hid (V.out.ext hb2)
  have E := ext_trans E hb2
  clear hb2
  refine (impl_TurnedPlan p _ _ (V.out.base (Nat.zero_le _)) (by omega)).mono ?_
  rintro e w3 ⟨xs, rfl, hX, hb3⟩
  have A0 := A0.ext hb3
  have V := Lib.hid (V.out.ext hb3)
  have E := ext_trans E hb3
  clear hb3
  obtain ⟨ax, cx, rfl, -⟩ := hX.open
  have X := Lib.hid hX
  clear hX
  obtain ⟨T, hT⟩ : ∃ T : Pl, Hid (T = p.turned) := ⟨_, rfl⟩
  have hTl : T.bs.length ≤ 10 := by rw [hT.out]; have := turn_length p; omega
  rw [← hT.out] at X ⊢
  obtain ⟨rcA0, rzA0⟩ := (A0).rules; have rlA0 := (A0).lt
  go_upto_region 5 with fail
  obtain ⟨w4, hw4, A1, hs4, hb4⟩ := one_box w3 #[.int .i64 T.pts, .slice ax T.bs.length cx] 25
  rw [← hw4.out]
  have A0 := A0.ext hb4
  have V := Lib.hid (V.out.ext hb4)
  have X := Lib.hid (X.out.ext hb4)
  have E := ext_trans E hb4
  clear hb4
  go_region_held3 (fun w' => w'.cell? ⟨w1.heap.size, 0, none⟩ = some (Value.int .i64 p.pts) ∧ w'.cell? ⟨w1.heap.size, 1, none⟩ = some (Value.slice av p.bs.length cv) ∧ w'.cell? ⟨w3.heap.size, 0, none⟩ = some (Value.int .i64 T.pts) ∧ w'.cell? ⟨w3.heap.size, 1, none⟩ = some (Value.slice ax T.bs.length cx))
    (first | exact ⟨A0.cell0 rfl, A0.cell0 rfl, A1.cell0 rfl, A1.cell0 rfl⟩ | exact ⟨A0a5.cell0 rfl, A0a5.cell0 rfl, A1a5.cell0 rfl, A1a5.cell0 rfl⟩ | exact ⟨A0b5.cell0 rfl, A0b5.cell0 rfl, A1b5.cell0 rfl, A1b5.cell0 rfl⟩)
    (first | (go_at_call 18
              refine (spec_TurnedPlan p _ _ ((V.out.ext (ext_drew (ext_refl w4))).base (Nat.zero_le _)) (by omega)).mono ?_
              rintro e wa5 ⟨ys, rfl, hY, hba5⟩
              rw [← hT.out] at hY ⊢
              obtain ⟨ay, cy, rfl, -⟩ := Bds.open hY
              have A0a5 := A0.ext (ext_trans (ext_drew (ext_refl w4)) hba5)
              have A1a5 := A1.ext (ext_trans (ext_drew (ext_refl w4)) hba5)
              have Ya5 := hY
              have Ha5 := ext_trans (ext_drew (ext_refl w4)) hba5)
           | (go_at_call 17
              refine (laws_samePlan T T _ _ _ ((X.out.ext Ha5).base (Nat.zero_le _)) (Ya5.base (Nat.zero_le _))).mono ?_
              rintro e wb5 ⟨rfl, hbb5⟩
              rw [decide_eq_true rfl]
              have A0b5 := A0.ext (ext_trans Ha5 hbb5)
              have A1b5 := A1.ext (ext_trans Ha5 hbb5)
              have Yb5 := Ya5.ext hbb5
              have Hb5 := ext_trans Ha5 hbb5))
  have A0 := A0.ext Hb5
  have A1 := A1.ext Hb5
  have V := Lib.hid (V.out.ext Hb5)
  have X := Lib.hid (X.out.ext Hb5)
  have E := ext_trans E Hb5
  have Y := Lib.hid Yb5
  clear A0a5 A1a5 A0b5 A1b5 hba5 hbb5 Ha5 Hb5
  obtain ⟨rcA0, rzA0⟩ := (A0).rules; have rlA0 := (A0).lt
  obtain ⟨rcA1, rzA1⟩ := (A1).rules; have rlA1 := (A1).lt
  go_wp2_with fail
  refine (spec_PlanOk p _ _ (V.out.base (Nat.zero_le _))).mono ?_
  rintro e w6 ⟨rfl, hb6⟩
  have A0 := A0.ext hb6
  have A1 := A1.ext hb6
  have V := Lib.hid (V.out.ext hb6)
  have X := Lib.hid (X.out.ext hb6)
  have Y := Lib.hid (Y.out.ext hb6)
  have E := ext_trans E hb6
  clear hb6
  obtain ⟨rcA0, rzA0⟩ := (A0).rules; have rlA0 := (A0).lt
  obtain ⟨rcA1, rzA1⟩ := (A1).rules; have rlA1 := (A1).lt
  by_cases hok : p.ok = true
  · have Hok := Lib.hid hok
    have Hok2 := Lib.hid (show T.ok = true by rw [hT.out]; exact turn_ok p hok)
    have Htt := Lib.hid (show T.turned = p by rw [hT.out]; exact turn_turn p hok)
    rw [hok]
    clear hok
    go_upto_region 9 with fail
    go_region_held3 (fun w' => w'.cell? ⟨w1.heap.size, 0, none⟩ = some (Value.int .i64 p.pts) ∧ w'.cell? ⟨w1.heap.size, 1, none⟩ = some (Value.slice av p.bs.length cv) ∧ w'.cell? ⟨w3.heap.size, 0, none⟩ = some (Value.int .i64 T.pts) ∧ w'.cell? ⟨w3.heap.size, 1, none⟩ = some (Value.slice ax T.bs.length cx))
      (first | exact ⟨A0.cell0 rfl, A0.cell0 rfl, A1.cell0 rfl, A1.cell0 rfl⟩ | exact ⟨A0a7.cell0 rfl, A0a7.cell0 rfl, A1a7.cell0 rfl, A1a7.cell0 rfl⟩ | exact ⟨A0b7.cell0 rfl, A0b7.cell0 rfl, A1b7.cell0 rfl, A1b7.cell0 rfl⟩ | exact ⟨A0c7.cell0 rfl, A0c7.cell0 rfl, A1c7.cell0 rfl, A1c7.cell0 rfl⟩)
      (first | (go_at_call 21
                refine (impl_PlanOk T _ _ ((X.out.ext (ext_drew (ext_refl w6))).base (Nat.zero_le _))).mono ?_
                rintro e wa7 ⟨rfl, hba7⟩
                rw [Hok2.out]
                have A0a7 := A0.ext (ext_trans (ext_drew (ext_refl w6)) hba7)
                have A1a7 := A1.ext (ext_trans (ext_drew (ext_refl w6)) hba7)
                have Ha7 := ext_trans (ext_drew (ext_refl w6)) hba7)
             | (go_at_call 16
                refine (impl_TurnedPlan T _ _ ((X.out.ext Ha7).base (Nat.zero_le _)) (by omega)).mono ?_
                rintro e wb7 ⟨zs, rfl, hZ, hbb7⟩
                rw [Htt.out] at hZ ⊢
                obtain ⟨az, cz, rfl, -⟩ := Bds.open hZ
                have A0b7 := A0.ext (ext_trans Ha7 hbb7)
                have A1b7 := A1.ext (ext_trans Ha7 hbb7)
                have Zb7 := hZ
                have Hb7 := ext_trans Ha7 hbb7)
             | (go_at_call 17
                refine (laws_samePlan p p _ _ _ (Zb7.base (Nat.zero_le _)) ((V.out.ext Hb7).base (Nat.zero_le _))).mono ?_
                rintro e wc7 ⟨rfl, hbc7⟩
                rw [decide_eq_true rfl]
                have A0c7 := A0.ext (ext_trans Hb7 hbc7)
                have A1c7 := A1.ext (ext_trans Hb7 hbc7)
                have Zc7 := Zb7.ext hbc7
                have Hc7 := ext_trans Hb7 hbc7))
    have A0 := A0.ext Hc7
    have A1 := A1.ext Hc7
    have V := Lib.hid (V.out.ext Hc7)
    have X := Lib.hid (X.out.ext Hc7)
    have Y := Lib.hid (Y.out.ext Hc7)
    have E := ext_trans E Hc7
    have Z := Lib.hid Zc7
    clear A0a7 A1a7 A0b7 A1b7 A0c7 A1c7 hba7 hbb7 hbc7 Ha7 Hb7 Hc7
    go_wp2_with fail
    go_ret
    exact ⟨rfl, E⟩
  · simp only [Bool.not_eq_true] at hok
    have HT := Lib.hid (show T = Pl.zero by rw [hT.out]; exact turn_not p hok)
    rw [hok]
    go_wp2_with fail
    refine (laws_samePlan T Pl.zero _ (.slice none 0 0) _ (X.out.base (Nat.zero_le _)) (Bds.nil _ _)).mono ?_
    rintro e w7 ⟨rfl, hb7⟩
    have A0 := A0.ext hb7
    have A1 := A1.ext hb7
    have V := Lib.hid (V.out.ext hb7)
    have X := Lib.hid (X.out.ext hb7)
    have Y := Lib.hid (Y.out.ext hb7)
    have E := ext_trans E hb7
    clear hb7
    rw [decide_eq_true HT.out]
    obtain ⟨rcA0, rzA0⟩ := (A0).rules; have rlA0 := (A0).lt
    obtain ⟨rcA1, rzA1⟩ := (A1).rules; have rlA1 := (A1).lt
    go_wp2_with fail
    refine (laws_alive _).mono ?_
    rintro e w8 ⟨rfl, hb8⟩
    have A0 := A0.ext hb8
    have A1 := A1.ext hb8
    have V := Lib.hid (V.out.ext hb8)
    have X := Lib.hid (X.out.ext hb8)
    have Y := Lib.hid (Y.out.ext hb8)
    have E := ext_trans E hb8
    clear hb8
    go_wp2_with fail
    go_ret
    exact ⟨rfl, E⟩
end Go.Proofs.Ytcjdodjjdchnaaa
