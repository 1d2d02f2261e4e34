/- The walk of FnExactDeskNew: it returns true, whatever plan came in. No condition. -/
import Derived.Test.YtcjdodjjdchnaaaDeskLaw
import Derived.Test.YtcjdodjjdchnaaaLawPlan
namespace Go.Proofs.Ytcjdodjjdchnaaa
open Go.RowKit
set_option linter.unusedVariables false
set_option linter.unusedSimpArgs false
set_option maxRecDepth 100000 in
set_option maxHeartbeats 8000000 in
theorem walk_ExactDeskNew (pts0 : Int) (a0 : Option Addr) (n0 cap0 : Nat) (l0 : List Bd) (w : World) (h0 : ABds w a0 n0 cap0 l0) :
    Calls Try.prog 14 #[.agg #[.int .i64 pts0, .slice a0 n0 cap0]] w fun e w' => e = .returned (.bool true) ∧ Below w.heap.size w w' := by
  obtain ⟨hl0, hcap0, hmax0, -⟩ := id h0
  have H := Lib.hid h0
  have HL := Lib.hid hl0
  clear h0 hl0
  by_cases hbig : (1048576 : Int) - n0 < 0
  · have Hs := Lib.hid (szR_neg hbig)
    go_enter Try.func14, Try.ntmps14
    go_wp2_with fail
    obtain ⟨w1, hw1, A0, hs1, hb1⟩ := one_box w #[.int .i64 pts0, .slice a0 n0 cap0] 50
    rw [← hw1.out]
    have E := hb1
    clear hb1
    obtain ⟨rcA0, rzA0⟩ := (A0).rules; have rlA0 := (A0).lt
    go_wp2_with fail
    refine (laws_szPlan pts0 a0 n0 cap0 _ _ (by omega) (by omega) (by omega)).mono ?_
    rintro e w2 ⟨rfl, hb2⟩
    clear rcA0 rzA0 rlA0
    have A0 := A0.ext hb2
    have E := ext_trans E hb2
    clear hb2
    rw [Hs.out]
    obtain ⟨rcA0, rzA0⟩ := (A0).rules; have rlA0 := (A0).lt
    go_wp2_with fail
    go_ret
    exact ⟨rfl, E⟩
  have Hs := Lib.hid (szR_pos hbig)
  have hn0 : n0 ≤ 1048576 := by omega
  go_enter Try.func14, Try.ntmps14
  go_wp2_with fail
  obtain ⟨w1, hw1, A0, hs1, hb1⟩ := one_box w #[.int .i64 pts0, .slice a0 n0 cap0] 50
  rw [← hw1.out]
  have E := hb1
  have qw1 := (hb1).size
  clear hb1
  obtain ⟨rcA0, rzA0⟩ := (A0).rules; have rlA0 := (A0).lt
  go_wp2_with fail
  refine (laws_szPlan pts0 a0 n0 cap0 _ _ (by omega) (by omega) (by omega)).mono ?_
  rintro e w2 ⟨rfl, hb2⟩
  clear rcA0 rzA0 rlA0
  have A0 := A0.ext hb2
  have E := ext_trans E hb2
  have qw2 := (hb2).size
  clear hb2
  rw [Hs.out]
  obtain ⟨rcA0, rzA0⟩ := (A0).rules; have rlA0 := (A0).lt
  go_wp2_with fail
  obtain ⟨p, hp⟩ : ∃ p : Pl, Hid (p = ⟨pts0, l0⟩) := ⟨_, rfl⟩
  have hpb : Hid (p.bs = l0) := by rw [hp.out]; exact Lib.hid rfl
  have hpp : Hid (p.pts = pts0) := by rw [hp.out]; exact Lib.hid rfl
  obtain ⟨P, hP⟩ : ∃ P : Pl, Hid (P = p.desk) := ⟨_, rfl⟩
  obtain ⟨k, hk⟩ : ∃ k : Bool, Hid (k = p.ok) := ⟨_, rfl⟩
  have hPl : P.bs.length ≤ 2000000 := by
    rw [hP.out]
    unfold Pl.desk
    split
    · rw [hpb.out]; have := HL.out; omega
    · simp [Pl.zero]
  refine (laws_toPlan pts0 a0 n0 cap0 l0 _ (H.out.ext E) hn0).mono ?_
  rintro e w3 ⟨vT, rfl, hT, hb3⟩
  clear rcA0 rzA0 rlA0
  have A0 := A0.ext hb3
  have E := ext_trans E hb3
  have qw3 := (hb3).size
  clear hb3
  obtain ⟨aT, cT, rfl, -⟩ := hT.open
  have T := Lib.hid hT
  clear hT
  have BT := Lib.hid T.out.lt
  obtain ⟨rcA0, rzA0⟩ := (A0).rules; have rlA0 := (A0).lt
  go_wp2_with fail
  refine ((show Calls Try.prog 24 #[.agg #[.int .i64 pts0, .slice aT l0.length cT]] _ (RetDesk _ P k) by rw [hP.out, hk.out, ← hpp.out, ← hpb.out]; exact spec_DeskNew p _ _ (by rw [hpb.out]; exact T.out.base (Nat.zero_le _)) (by rw [hpb.out]; have := HL.out; omega))).mono ?_
  rintro e w4 ⟨vW, rfl, hW, hb4⟩
  clear rcA0 rzA0 rlA0
  have A0 := A0.ext hb4
  have T := Lib.hid (T.out.ext hb4)
  have E := ext_trans E hb4
  have qw4 := (hb4).size
  clear hb4
  obtain ⟨aW, cW, rfl, -⟩ := hW.open
  have W := Lib.hid hW
  clear hW
  have BW := Lib.hid W.out.lt
  obtain ⟨rcA0, rzA0⟩ := (A0).rules; have rlA0 := (A0).lt
  go_wp2_with fail
  obtain ⟨w5, hw5, DkW, hs5, hb5⟩ := one_box w4 #[.int .i64 P.pts, .slice aW P.bs.length cW, .slice none 0 0] 34
  rw [← hw5.out]
  clear rcA0 rzA0 rlA0
  have A0 := A0.ext hb5
  have T := Lib.hid (T.out.ext hb5)
  have W := Lib.hid (W.out.ext hb5)
  have E := ext_trans E hb5
  have qw5 := (hb5).size
  clear hb5
  obtain ⟨rcA0, rzA0⟩ := (A0).rules; have rlA0 := (A0).lt
  obtain ⟨rcDkW, rzDkW⟩ := (DkW).rules; have rlDkW := (DkW).lt
  go_wp2_with fail
  clear T BT
  refine (laws_toPlan pts0 a0 n0 cap0 l0 _ (H.out.ext E) hn0).mono ?_
  rintro e w6 ⟨vX, rfl, hX, hb6⟩
  clear rcA0 rzA0 rlA0 rcDkW rzDkW rlDkW
  have A0 := A0.ext hb6
  have DkW := DkW.ext hb6
  have W := Lib.hid (W.out.ext hb6)
  have E := ext_trans E hb6
  have qw6 := (hb6).size
  clear hb6
  obtain ⟨aX, cX, rfl, -⟩ := hX.open
  have X := Lib.hid hX
  clear hX
  have BX := Lib.hid X.out.lt
  obtain ⟨rcA0, rzA0⟩ := (A0).rules; have rlA0 := (A0).lt
  obtain ⟨rcDkW, rzDkW⟩ := (DkW).rules; have rlDkW := (DkW).lt
  go_wp2_with fail
  obtain ⟨w7, hw7, Xb, hs7, hb7⟩ := one_box w6 #[.int .i64 pts0, .slice aX l0.length cX] 25
  rw [← hw7.out]
  clear rcA0 rzA0 rlA0 rcDkW rzDkW rlDkW
  have A0 := A0.ext hb7
  have DkW := DkW.ext hb7
  have W := Lib.hid (W.out.ext hb7)
  have X := Lib.hid (X.out.ext hb7)
  have E := ext_trans E hb7
  have qw7 := (hb7).size
  clear hb7
  obtain ⟨rcA0, rzA0⟩ := (A0).rules; have rlA0 := (A0).lt
  obtain ⟨rcDkW, rzDkW⟩ := (DkW).rules; have rlDkW := (DkW).lt
  obtain ⟨rcXb, rzXb⟩ := (Xb).rules; have rlXb := (Xb).lt
  go_wp2_with fail
  refine ((show Calls Try.prog 23 #[.agg #[.int .i64 pts0, .slice aX l0.length cX]] _ (RetDesk _ P k) by rw [hP.out, hk.out, ← hpp.out, ← hpb.out]; exact impl_DeskNew p _ _ (by rw [hpb.out]; exact X.out.base (Nat.zero_le _)) (by rw [hpb.out]; have := HL.out; omega))).mono ?_
  rintro e w8 ⟨vG, rfl, hG, hb8⟩
  clear rcA0 rzA0 rlA0 rcDkW rzDkW rlDkW rcXb rzXb rlXb
  have A0 := A0.ext hb8
  have DkW := DkW.ext hb8
  have Xb := Xb.ext hb8
  have W := Lib.hid (W.out.ext hb8)
  have X := Lib.hid (X.out.ext hb8)
  have E := ext_trans E hb8
  have qw8 := (hb8).size
  clear hb8
  obtain ⟨aG, cG, rfl, -⟩ := hG.open
  have G := Lib.hid hG
  clear hG
  have BG := Lib.hid G.out.lt
  obtain ⟨rcA0, rzA0⟩ := (A0).rules; have rlA0 := (A0).lt
  obtain ⟨rcDkW, rzDkW⟩ := (DkW).rules; have rlDkW := (DkW).lt
  obtain ⟨rcXb, rzXb⟩ := (Xb).rules; have rlXb := (Xb).lt
  go_wp2_with fail
  obtain ⟨w9, hw9, DkG, hs9, hb9⟩ := one_box w8 #[.int .i64 P.pts, .slice aG P.bs.length cG, .slice none 0 0] 34
  rw [← hw9.out]
  clear rcA0 rzA0 rlA0 rcDkW rzDkW rlDkW rcXb rzXb rlXb
  have A0 := A0.ext hb9
  have DkW := DkW.ext hb9
  have Xb := Xb.ext hb9
  have W := Lib.hid (W.out.ext hb9)
  have X := Lib.hid (X.out.ext hb9)
  have G := Lib.hid (G.out.ext hb9)
  have E := ext_trans E hb9
  have qw9 := (hb9).size
  clear hb9
  obtain ⟨rcA0, rzA0⟩ := (A0).rules; have rlA0 := (A0).lt
  obtain ⟨rcDkW, rzDkW⟩ := (DkW).rules; have rlDkW := (DkW).lt
  obtain ⟨rcXb, rzXb⟩ := (Xb).rules; have rlXb := (Xb).lt
  obtain ⟨rcDkG, rzDkG⟩ := (DkG).rules; have rlDkG := (DkG).lt
  go_wp2_with fail
  refine (laws_eqDesk0 P _ _ _ (G.out.base (Nat.zero_le _)) (W.out.base (Nat.zero_le _))).mono ?_
  rintro e w10 ⟨rfl, hb10⟩
  clear rcA0 rzA0 rlA0 rcDkW rzDkW rlDkW rcXb rzXb rlXb rcDkG rzDkG rlDkG
  have A0 := A0.ext hb10
  have DkW := DkW.ext hb10
  have Xb := Xb.ext hb10
  have DkG := DkG.ext hb10
  have W := Lib.hid (W.out.ext hb10)
  have X := Lib.hid (X.out.ext hb10)
  have G := Lib.hid (G.out.ext hb10)
  have E := ext_trans E hb10
  have qw10 := (hb10).size
  clear hb10
  obtain ⟨rcA0, rzA0⟩ := (A0).rules; have rlA0 := (A0).lt
  obtain ⟨rcDkW, rzDkW⟩ := (DkW).rules; have rlDkW := (DkW).lt
  obtain ⟨rcXb, rzXb⟩ := (Xb).rules; have rlXb := (Xb).lt
  obtain ⟨rcDkG, rzDkG⟩ := (DkG).rules; have rlDkG := (DkG).lt
  go_wp2_with fail
  go_region_held3 (fun w' => w'.cell? ⟨w.heap.size, 0, none⟩ = some (Value.int .i64 pts0) ∧ w'.cell? ⟨w.heap.size, 1, none⟩ = some (Value.slice a0 n0 cap0) ∧ w'.cell? ⟨w6.heap.size, 0, none⟩ = some (Value.int .i64 pts0) ∧ w'.cell? ⟨w6.heap.size, 1, none⟩ = some (Value.slice aX l0.length cX))
    (first | exact ⟨A0.cell0 rfl, A0.cell0 rfl, Xb.cell0 rfl, Xb.cell0 rfl⟩ | exact ⟨A0a11.cell0 rfl, A0a11.cell0 rfl, Xba11.cell0 rfl, Xba11.cell0 rfl⟩ | exact ⟨A0b11.cell0 rfl, A0b11.cell0 rfl, Xbb11.cell0 rfl, Xbb11.cell0 rfl⟩)
    (first | (go_at_call 33
              refine (laws_toPlan pts0 a0 n0 cap0 l0 _ (H.out.ext (ext_trans E (ext_drew (ext_refl w10)))) hn0).mono ?_
              rintro e wa11 ⟨vY, rfl, hY, hba11⟩
              obtain ⟨aY, cY, rfl, -⟩ := hY.open
              have A0a11 := A0.ext (ext_trans (ext_drew (ext_refl w10)) hba11)
              have Xba11 := Xb.ext (ext_trans (ext_drew (ext_refl w10)) hba11)
              have Ya11 := hY
              have Ha11 := ext_trans (ext_drew (ext_refl w10)) hba11)
           | (go_at_call 34
              refine (laws_eqPlan ⟨pts0, l0⟩ ⟨pts0, l0⟩ _ _ _ ((X.out.ext Ha11).base (Nat.zero_le _)) (Ya11.base (Nat.zero_le _))).mono ?_
              rintro e wb11 ⟨rfl, hbb11⟩
              rw [decide_eq_true rfl]
              have A0b11 := A0.ext (ext_trans Ha11 hbb11)
              have Xbb11 := Xb.ext (ext_trans Ha11 hbb11)
              have Yb11 := Ya11.ext hbb11
              have Hb11 := ext_trans Ha11 hbb11))
  clear rcA0 rzA0 rlA0 rcDkW rzDkW rlDkW rcXb rzXb rlXb rcDkG rzDkG rlDkG
  have A0 := A0.ext Hb11
  have DkW := DkW.ext Hb11
  have Xb := Xb.ext Hb11
  have DkG := DkG.ext Hb11
  have W := Lib.hid (W.out.ext Hb11)
  have X := Lib.hid (X.out.ext Hb11)
  have G := Lib.hid (G.out.ext Hb11)
  have E := ext_trans E Hb11
  have Y := Lib.hid Yb11
  have qwb11 := (Hb11).size
  clear A0a11 Xba11 A0b11 Xbb11 hba11 hbb11 Ha11 Hb11
  obtain ⟨rcA0, rzA0⟩ := (A0).rules; have rlA0 := (A0).lt
  obtain ⟨rcDkW, rzDkW⟩ := (DkW).rules; have rlDkW := (DkW).lt
  obtain ⟨rcXb, rzXb⟩ := (Xb).rules; have rlXb := (Xb).lt
  obtain ⟨rcDkG, rzDkG⟩ := (DkG).rules; have rlDkG := (DkG).lt
  clear rcA0 rzA0 rlA0 rcDkW rzDkW rlDkW rcXb rzXb rlXb rcDkG rzDkG rlDkG
  obtain ⟨rcA0, rzA0⟩ := (A0).rules; have rlA0 := (A0).lt
  obtain ⟨rcDkW, rzDkW⟩ := (DkW).rules; have rlDkW := (DkW).lt
  obtain ⟨rcXb, rzXb⟩ := (Xb).rules; have rlXb := (Xb).lt
  obtain ⟨rcDkG, rzDkG⟩ := (DkG).rules; have rlDkG := (DkG).lt
  go_wp2_with fail
  refine (laws_markPlan pts0 _ l0 _ 1 _ X.out (by omega) (by omega) (by have := HL.out; omega)).mono ?_
  rintro e w12 ⟨rfl, hX, hg12⟩
  clear rcA0 rzA0 rlA0 rcDkW rzDkW rlDkW rcXb rzXb rlXb rcDkG rzDkG rlDkG
  have A0 := A0.grown hg12 (fun e => by have := BX.out _ e.symm; omega)
  have DkW := DkW.grown hg12 (fun e => by have := BX.out _ e.symm; omega)
  have Xb := Xb.grown hg12 (fun e => by have := BX.out _ e.symm; omega)
  have DkG := DkG.grown hg12 (fun e => by have := BX.out _ e.symm; omega)
  have W := Lib.hid (W.out.far hg12 (fun q hq e => by have := BW.out _ hq; have := BX.out _ e; omega))
  have G := Lib.hid (G.out.far hg12 (fun q hq e => by have := BG.out _ hq; have := BX.out _ e; omega))
  have E := ext_grown E hg12 (fun q hq => by have := BX.out q hq; omega)
  have qw12 := (hg12).size
  clear hg12
  obtain ⟨rcA0, rzA0⟩ := (A0).rules; have rlA0 := (A0).lt
  obtain ⟨rcDkW, rzDkW⟩ := (DkW).rules; have rlDkW := (DkW).lt
  obtain ⟨rcXb, rzXb⟩ := (Xb).rules; have rlXb := (Xb).lt
  obtain ⟨rcDkG, rzDkG⟩ := (DkG).rules; have rlDkG := (DkG).lt
  go_wp2_with fail
  refine (laws_eqDesk0 P _ _ _ (G.out.base (Nat.zero_le _)) (W.out.base (Nat.zero_le _))).mono ?_
  rintro e w13 ⟨rfl, hb13⟩
  clear rcA0 rzA0 rlA0 rcDkW rzDkW rlDkW rcXb rzXb rlXb rcDkG rzDkG rlDkG
  have A0 := A0.ext hb13
  have DkW := DkW.ext hb13
  have Xb := Xb.ext hb13
  have DkG := DkG.ext hb13
  have W := Lib.hid (W.out.ext hb13)
  have G := Lib.hid (G.out.ext hb13)
  have E := ext_trans E hb13
  have qw13 := (hb13).size
  clear hb13
  obtain ⟨rcA0, rzA0⟩ := (A0).rules; have rlA0 := (A0).lt
  obtain ⟨rcDkW, rzDkW⟩ := (DkW).rules; have rlDkW := (DkW).lt
  obtain ⟨rcXb, rzXb⟩ := (Xb).rules; have rlXb := (Xb).lt
  obtain ⟨rcDkG, rzDkG⟩ := (DkG).rules; have rlDkG := (DkG).lt
  go_wp2_with fail
  refine (laws_markDesk0 P.pts _ P.bs _ 1 _ G.out (by omega) (by omega) (by omega)).mono ?_
  rintro e w14 ⟨rfl, hG, hg14⟩
  clear rcA0 rzA0 rlA0 rcDkW rzDkW rlDkW rcXb rzXb rlXb rcDkG rzDkG rlDkG
  have A0 := A0.grown hg14 (fun e => by have := BG.out _ e.symm; omega)
  have DkW := DkW.grown hg14 (fun e => by have := BG.out _ e.symm; omega)
  have Xb := Xb.grown hg14 (fun e => by have := BG.out _ e.symm; omega)
  have DkG := DkG.grown hg14 (fun e => by have := BG.out _ e.symm; omega)
  have W := Lib.hid (W.out.far hg14 (fun q hq e => by have := BW.out _ hq; have := BG.out _ e; omega))
  have E := ext_grown E hg14 (fun q hq => by have := BG.out q hq; omega)
  have qw14 := (hg14).size
  clear hg14
  have G := Lib.hid hG
  clear hG
  obtain ⟨rcA0, rzA0⟩ := (A0).rules; have rlA0 := (A0).lt
  obtain ⟨rcDkW, rzDkW⟩ := (DkW).rules; have rlDkW := (DkW).lt
  obtain ⟨rcXb, rzXb⟩ := (Xb).rules; have rlXb := (Xb).lt
  obtain ⟨rcDkG, rzDkG⟩ := (DkG).rules; have rlDkG := (DkG).lt
  go_wp2_with fail
  refine (laws_heldDesk0 P.pts _ P.bs.length 1 _ (G.out.base (Nat.zero_le _)) (by omega) (by omega) (by omega)).mono ?_
  rintro e w15 ⟨rfl, hb15⟩
  clear rcA0 rzA0 rlA0 rcDkW rzDkW rlDkW rcXb rzXb rlXb rcDkG rzDkG rlDkG
  have A0 := A0.ext hb15
  have DkW := DkW.ext hb15
  have Xb := Xb.ext hb15
  have DkG := DkG.ext hb15
  have W := Lib.hid (W.out.ext hb15)
  have G := Lib.hid (G.out.ext hb15)
  have E := ext_trans E hb15
  have qw15 := (hb15).size
  clear hb15
  obtain ⟨rcA0, rzA0⟩ := (A0).rules; have rlA0 := (A0).lt
  obtain ⟨rcDkW, rzDkW⟩ := (DkW).rules; have rlDkW := (DkW).lt
  obtain ⟨rcXb, rzXb⟩ := (Xb).rules; have rlXb := (Xb).lt
  obtain ⟨rcDkG, rzDkG⟩ := (DkG).rules; have rlDkG := (DkG).lt
  go_wp2_with fail
  refine (laws_toPlan pts0 a0 n0 cap0 l0 _ (H.out.ext E) hn0).mono ?_
  rintro e w16 ⟨vT2, rfl, hT2, hb16⟩
  clear rcA0 rzA0 rlA0 rcDkW rzDkW rlDkW rcXb rzXb rlXb rcDkG rzDkG rlDkG
  have A0 := A0.ext hb16
  have DkW := DkW.ext hb16
  have Xb := Xb.ext hb16
  have DkG := DkG.ext hb16
  have W := Lib.hid (W.out.ext hb16)
  have G := Lib.hid (G.out.ext hb16)
  have E := ext_trans E hb16
  have qw16 := (hb16).size
  clear hb16
  obtain ⟨aT2, cT2, rfl, -⟩ := hT2.open
  have T2 := Lib.hid hT2
  clear hT2
  have BT2 := Lib.hid T2.out.lt
  obtain ⟨rcA0, rzA0⟩ := (A0).rules; have rlA0 := (A0).lt
  obtain ⟨rcDkW, rzDkW⟩ := (DkW).rules; have rlDkW := (DkW).lt
  obtain ⟨rcXb, rzXb⟩ := (Xb).rules; have rlXb := (Xb).lt
  obtain ⟨rcDkG, rzDkG⟩ := (DkG).rules; have rlDkG := (DkG).lt
  go_wp2_with fail
  refine ((show Calls Try.prog 23 #[.agg #[.int .i64 pts0, .slice aT2 l0.length cT2]] _ (RetDesk _ P k) by rw [hP.out, hk.out, ← hpp.out, ← hpb.out]; exact impl_DeskNew p _ _ (by rw [hpb.out]; exact T2.out.base (Nat.zero_le _)) (by rw [hpb.out]; have := HL.out; omega))).mono ?_
  rintro e w17 ⟨vZ, rfl, hZ, hb17⟩
  clear rcA0 rzA0 rlA0 rcDkW rzDkW rlDkW rcXb rzXb rlXb rcDkG rzDkG rlDkG
  have A0 := A0.ext hb17
  have DkW := DkW.ext hb17
  have Xb := Xb.ext hb17
  have DkG := DkG.ext hb17
  have W := Lib.hid (W.out.ext hb17)
  have G := Lib.hid (G.out.ext hb17)
  have T2 := Lib.hid (T2.out.ext hb17)
  have E := ext_trans E hb17
  have qw17 := (hb17).size
  clear hb17
  obtain ⟨aZ, cZ, rfl, -⟩ := hZ.open
  have Z := Lib.hid hZ
  clear hZ
  have BZ := Lib.hid Z.out.lt
  obtain ⟨rcA0, rzA0⟩ := (A0).rules; have rlA0 := (A0).lt
  obtain ⟨rcDkW, rzDkW⟩ := (DkW).rules; have rlDkW := (DkW).lt
  obtain ⟨rcXb, rzXb⟩ := (Xb).rules; have rlXb := (Xb).lt
  obtain ⟨rcDkG, rzDkG⟩ := (DkG).rules; have rlDkG := (DkG).lt
  go_wp2_with fail
  obtain ⟨w18, hw18, DkZ, hs18, hb18⟩ := one_box w17 #[.int .i64 P.pts, .slice aZ P.bs.length cZ, .slice none 0 0] 34
  rw [← hw18.out]
  clear rcA0 rzA0 rlA0 rcDkW rzDkW rlDkW rcXb rzXb rlXb rcDkG rzDkG rlDkG
  have A0 := A0.ext hb18
  have DkW := DkW.ext hb18
  have Xb := Xb.ext hb18
  have DkG := DkG.ext hb18
  have W := Lib.hid (W.out.ext hb18)
  have G := Lib.hid (G.out.ext hb18)
  have T2 := Lib.hid (T2.out.ext hb18)
  have Z := Lib.hid (Z.out.ext hb18)
  have E := ext_trans E hb18
  have qw18 := (hb18).size
  clear hb18
  obtain ⟨rcA0, rzA0⟩ := (A0).rules; have rlA0 := (A0).lt
  obtain ⟨rcDkW, rzDkW⟩ := (DkW).rules; have rlDkW := (DkW).lt
  obtain ⟨rcXb, rzXb⟩ := (Xb).rules; have rlXb := (Xb).lt
  obtain ⟨rcDkG, rzDkG⟩ := (DkG).rules; have rlDkG := (DkG).lt
  obtain ⟨rcDkZ, rzDkZ⟩ := (DkZ).rules; have rlDkZ := (DkZ).lt
  go_wp2_with fail
  refine (laws_eqDesk0 P _ _ _ (Z.out.base (Nat.zero_le _)) (W.out.base (Nat.zero_le _))).mono ?_
  rintro e w19 ⟨rfl, hb19⟩
  clear rcA0 rzA0 rlA0 rcDkW rzDkW rlDkW rcXb rzXb rlXb rcDkG rzDkG rlDkG rcDkZ rzDkZ rlDkZ
  have A0 := A0.ext hb19
  have DkW := DkW.ext hb19
  have Xb := Xb.ext hb19
  have DkG := DkG.ext hb19
  have DkZ := DkZ.ext hb19
  have W := Lib.hid (W.out.ext hb19)
  have G := Lib.hid (G.out.ext hb19)
  have Z := Lib.hid (Z.out.ext hb19)
  have E := ext_trans E hb19
  have qw19 := (hb19).size
  clear hb19
  obtain ⟨rcA0, rzA0⟩ := (A0).rules; have rlA0 := (A0).lt
  obtain ⟨rcDkW, rzDkW⟩ := (DkW).rules; have rlDkW := (DkW).lt
  obtain ⟨rcXb, rzXb⟩ := (Xb).rules; have rlXb := (Xb).lt
  obtain ⟨rcDkG, rzDkG⟩ := (DkG).rules; have rlDkG := (DkG).lt
  obtain ⟨rcDkZ, rzDkZ⟩ := (DkZ).rules; have rlDkZ := (DkZ).lt
  go_wp2_with fail
  refine (laws_heldDesk0 P.pts _ P.bs.length 1 _ (G.out.base (Nat.zero_le _)) (by omega) (by omega) (by omega)).mono ?_
  rintro e w20 ⟨rfl, hb20⟩
  clear rcA0 rzA0 rlA0 rcDkW rzDkW rlDkW rcXb rzXb rlXb rcDkG rzDkG rlDkG rcDkZ rzDkZ rlDkZ
  have A0 := A0.ext hb20
  have DkW := DkW.ext hb20
  have Xb := Xb.ext hb20
  have DkG := DkG.ext hb20
  have DkZ := DkZ.ext hb20
  have W := Lib.hid (W.out.ext hb20)
  have G := Lib.hid (G.out.ext hb20)
  have Z := Lib.hid (Z.out.ext hb20)
  have E := ext_trans E hb20
  have qw20 := (hb20).size
  clear hb20
  obtain ⟨rcA0, rzA0⟩ := (A0).rules; have rlA0 := (A0).lt
  obtain ⟨rcDkW, rzDkW⟩ := (DkW).rules; have rlDkW := (DkW).lt
  obtain ⟨rcXb, rzXb⟩ := (Xb).rules; have rlXb := (Xb).lt
  obtain ⟨rcDkG, rzDkG⟩ := (DkG).rules; have rlDkG := (DkG).lt
  obtain ⟨rcDkZ, rzDkZ⟩ := (DkZ).rules; have rlDkZ := (DkZ).lt
  go_wp2_with fail
  go_ret
  exact ⟨rfl, E⟩
end Go.Proofs.Ytcjdodjjdchnaaa
