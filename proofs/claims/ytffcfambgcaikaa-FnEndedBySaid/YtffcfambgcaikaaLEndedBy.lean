/- The walk of FnEndedBy: it returns true, whatever code came in. Condition: the bytes of the code can be read. -/
import Derived.Test.YtffcfambgcaikaaHeardD
import Derived.Test.YtffcfambgcaikaaEndI
import Derived.Test.YtffcfambgcaikaaEndS
import Derived.Test.YtffcfambgcaikaaAfterI
import Derived.Test.YtffcfambgcaikaaVerdI
import Derived.Test.YtffcfambgcaikaaPlanTimes
import Derived.Test.YtffcfambgcaikaaSameHeard
import Derived.Test.YtffcfambgcaikaaSame
namespace Go.Proofs.Ytffcfambgcaikaa
open Go.RowKit
set_option linter.unusedVariables false
set_option linter.unusedSimpArgs false
theorem keeps_done {p : Pl} {l : List Hp} (h : p.heard l = true) (hg : p.goes (lastT l) (doneL p.n l) = true) (hn : l.length + 1 = p.n) : keeps p (doneL p.n l) = true := by
  have hst := heard_st h (Int.le_refl _) (last_in h).2
  obtain ⟨s1, s2, s3, s4, s5⟩ := st_in hst
  have hok := (fits_ok s1).1
  obtain ⟨q1, q2, q3, q4, -⟩ := plok_in hok
  obtain ⟨x, x1, x2, x3⟩ := (goes_iff hst).1 hg
  have hall := (heard_len h).2.1 hn
  have ht : timesOk p (doneL p.n l) = true := by
    unfold timesOk
    rw [Bool.and_eq_true, Bool.and_eq_true]
    refine ⟨hok, decide_eq_true (by rw [s2, q1]), List.all_eq_true.2 fun y hy => ?_⟩
    obtain ⟨i, hi, rfl⟩ := List.mem_iff_getElem.1 hy
    have h5 := s5 i (by rw [← s2]; exact hi)
    have e : dA (doneL p.n l) i = (doneL p.n l)[i] := by unfold dA; rw [List.getD_eq_getElem?_getD, List.getElem?_eq_getElem hi]; rfl
    rw [e] at h5
    exact (inB_iff _ _ _).2 (by omega)
  unfold keeps
  rw [Bool.and_eq_true]
  refine ⟨ht, List.all_eq_true.2 fun b hb => ?_⟩
  have hr := (times_in ht).2.2.2 b hb
  have x1b := x1 b hb
  rw [s2] at hr
  have e1 : b.t.toNat < p.n := by omega
  have e2 : b.f.toNat < p.n := by omega
  rw [x3 _ e1 (hall _ e1), x3 _ e2 (hall _ e2)] at x1b
  unfold dA at x1b
  exact decide_eq_true (by omega)
theorem after_ok {p : Pl} {bs lv : Value} {l : List Hp} {y : Int} {w : World} (h : p.heard l = true) (hy : y = lastT l) (hv : Bds w 0 bs p.bs) (hh : Hps w 0 lv l) (hlen : l.length ≤ 2000000) :
    Calls Try.prog 21 #[.agg #[.int .i64 p.pts, bs], lv, .int .i64 y] w fun e w' => ∃ v, e = .returned (.tuple #[.agg #[.int .i64 y, v], .bool true]) ∧ Ints w' w.heap.size v (doneL p.n l) ∧ Below w.heap.size w w' := by
  refine (impl_StateAfter p bs lv l y w hv hh hlen).mono ?_
  rintro e w' ⟨x, v, d, rfl, hD, hd, hb⟩
  have hst : (p.heard l && inB y (lastT l) 2000) = true := by
    rw [Bool.and_eq_true, inB_iff, hy]
    exact ⟨h, Int.le_refl _, (last_in h).2⟩
  obtain ⟨h1, h2⟩ := hd hst
  rw [hst, h1]
  rw [h2] at hD
  exact ⟨v, rfl, hD, hb⟩
set_option maxRecDepth 100000 in
set_option maxHeartbeats 8000000 in
theorem walk_EndedBy (a : Option Addr) (n cap : Nat) (w : World) (h : Byt w w.heap.size a n cap) :
    Calls Try.prog 4 #[.slice a n cap] w fun e w' => e = .returned (.bool true) ∧ Below w.heap.size w w' := by
  have H := Lib.hid h
  obtain ⟨hncap, hcap, -⟩ := id h
  clear h
  by_cases hbig : 1048576 < n
  · go_enter Try.func4, Try.ntmps4
    go_wp2_with fail
    go_ret
    exact ⟨rfl, ext_refl _⟩
  go_enter Try.func4, Try.ntmps4
  go_wp2_with fail
  refine (spec_DrawEndedBy a n cap w H.out).mono ?_
  rintro e w1 ⟨v1, v2, p, l, rfl, hV, hU, hl16, hl6, h0, h7, htm, hb1⟩
  have E := hb1
  clear hb1
  obtain ⟨a1, c1, rfl, -⟩ := hV.open
  have V := Lib.hid hV
  clear hV
  obtain ⟨a2, c2, rfl, -⟩ := hU.open
  have U := Lib.hid hU
  clear hU
  go_upto_region 4 with fail
  obtain ⟨w2, hw2, A0, hs2, hb2⟩ := one_box w1 #[.int .i64 p.pts, .slice a1 p.bs.length c1] 25
  rw [← hw2.out]
  have V := Lib.hid (V.out.ext hb2)
  have U := Lib.hid (U.out.ext hb2)
  have E := ext_trans E hb2
  clear hb2
  have Htm := Lib.hid htm
  clear htm
  obtain ⟨N, hN⟩ : ∃ N, Hid (N = l.length) := ⟨_, rfl⟩
  rw [← hN.out] at hl6 U ⊢
  have hncl : N ≤ c2 ∧ c2 ≤ 9223372036854775807 := by obtain ⟨_, _, he, h1, h2, -⟩ := U.out.open; cases he; rw [hN.out]; exact ⟨h1, h2⟩
  obtain ⟨rcA0, rzA0⟩ := (A0).rules; have rlA0 := (A0).lt
  go_wp2_with fail
  obtain ⟨L, hL⟩ : ∃ L, Hid (L = (p.ended l).getD []) := ⟨_, rfl⟩
  obtain ⟨ok, hok⟩ : ∃ ok, Hid (ok = (p.ended l).isSome) := ⟨_, rfl⟩
  obtain ⟨M, hM⟩ : ∃ M, Hid (M = L.length) := ⟨_, rfl⟩
  have hoo : (ok != ok) = false := by simp
  refine (impl_EndedBy p _ _ l _ (V.out.base (Nat.zero_le _)) (U.out.base (Nat.zero_le _)) (by rw [← hN.out]; omega)).mono ?_
  rintro e w3 ⟨vX, rfl, hX, hb3⟩
  clear rcA0 rzA0 rlA0
  have A0 := A0.ext hb3
  have V := Lib.hid (V.out.ext hb3)
  have U := Lib.hid (U.out.ext hb3)
  have E := ext_trans E hb3
  clear hb3
  obtain ⟨aX, cX, rfl, -⟩ := hX.open
  have X := Lib.hid hX
  clear hX
  rw [← hL.out] at X ⊢
  rw [← hM.out] at X ⊢
  rw [← hok.out]
  obtain ⟨rcA0, rzA0⟩ := (A0).rules; have rlA0 := (A0).lt
  go_wp2_with fail
  refine (spec_EndedBy p _ _ l _ (V.out.base (Nat.zero_le _)) (U.out.base (Nat.zero_le _)) (by rw [← hN.out]; omega)).mono ?_
  rintro e w4 ⟨vY, rfl, hY, hb4⟩
  clear rcA0 rzA0 rlA0
  have A0 := A0.ext hb4
  have V := Lib.hid (V.out.ext hb4)
  have U := Lib.hid (U.out.ext hb4)
  have X := Lib.hid (X.out.ext hb4)
  have E := ext_trans E hb4
  clear hb4
  obtain ⟨aY, cY, rfl, -⟩ := hY.open
  have Y := Lib.hid hY
  clear hY
  rw [← hL.out] at Y ⊢
  rw [← hM.out] at Y ⊢
  rw [← hok.out]
  obtain ⟨rcA0, rzA0⟩ := (A0).rules; have rlA0 := (A0).lt
  go_wp2_with fail
  refine (laws_sameHeard L L _ _ _ (X.out.base (Nat.zero_le _)) (Y.out.base (Nat.zero_le _))).mono ?_
  rintro e w5 ⟨rfl, hb5⟩
  clear rcA0 rzA0 rlA0
  have A0 := A0.ext hb5
  have V := Lib.hid (V.out.ext hb5)
  have U := Lib.hid (U.out.ext hb5)
  have X := Lib.hid (X.out.ext hb5)
  have Y := Lib.hid (Y.out.ext hb5)
  have E := ext_trans E hb5
  clear hb5
  rw [decide_eq_true (rfl : L = L)]
  obtain ⟨rcA0, rzA0⟩ := (A0).rules; have rlA0 := (A0).lt
  obtain ⟨y, hy⟩ : ∃ x, Hid (x = lastT l) := ⟨_, rfl⟩
  have Hlt : Hid (y = if N = 0 then 0 else (hA l (N - 1)).tm) := by rw [hy.out, hN.out]; exact Lib.hid rfl
  clear rcA0 rzA0 rlA0
  go_upto_if 45 with fail
  go_cut [9] (fun v5 wx => v5 = .int .i64 y ∧ wx = w5)
  case first =>
    by_cases hN0 : 0 < N
    · have hN0i : (0 : Int) < (N : Int) := by omega
      obtain ⟨gq, ha, hgq, -, cy⟩ := U.out.atA (j := N - 1) (by rw [← hN.out]; omega)
      subst ha
      rw [show (hA l (N - 1)).tm = y by rw [Hlt.out, if_neg (by omega)]] at cy
      have hk1 : (N : Int) - 1 = ((N - 1 : Nat) : Int) := by omega
      have hk1N : N - 1 < N := by omega
      have hk1i : 0 ≤ (N : Int) - 1 := by omega
      have hk1M : (N : Int) - 1 < (N : Int) := by omega
      have hk1n : ((N : Int) - 1).toNat = N - 1 := by omega
      go_wp2_with fail
      go_meet
      exact ⟨rfl, rfl⟩
    · have hN0i : ¬ (0 : Int) < (N : Int) := by omega
      have hy0 : y = 0 := by rw [Hlt.out, if_pos (by omega)]
      go_wp2_with fail
      go_meet
      exact ⟨by rw [hy0], rfl⟩
  rename World => wt
  obtain ⟨rfl, rfl⟩ := hcut
  obtain ⟨rcA0, rzA0⟩ := (A0).rules; have rlA0 := (A0).lt
  go_wp2_with fail
  obtain ⟨r, hr⟩ : ∃ r, Hid (r = p.verdict l y) := ⟨_, rfl⟩
  refine (impl_VerdictOf p _ _ l y _ (V.out.base (Nat.zero_le _)) (U.out.base (Nat.zero_le _)) (by rw [← hN.out]; omega)).mono ?_
  rintro e w6 ⟨rfl, hb6⟩
  clear rcA0 rzA0 rlA0
  have A0 := A0.ext hb6
  have V := Lib.hid (V.out.ext hb6)
  have U := Lib.hid (U.out.ext hb6)
  have X := Lib.hid (X.out.ext hb6)
  have Y := Lib.hid (Y.out.ext hb6)
  have E := ext_trans E hb6
  clear hb6
  rw [← hr.out]
  obtain ⟨rcA0, rzA0⟩ := (A0).rules; have rlA0 := (A0).lt
  cases ok
  · have hE : Hid (p.ended l = none) := by
      have h := hok.out
      cases he : p.ended l
      · exact Lib.hid rfl
      · rw [he] at h; cases h
    have hM0 : M = 0 := by rw [hM.out, hL.out, hE.out]; rfl
    have hM0i : ((M : Int) == 0) = true := by simp [hM0]
    clear hM0
    have hr3 : Hid (r = 2 ∨ r = -1 ∨ (r ≠ 2 ∧ r ≠ -1 ∧ 1400 < y)) := by
      by_cases h2 : r = 2
      · exact Lib.hid (.inl h2)
      by_cases hm : r = -1
      · exact Lib.hid (.inr (.inl hm))
      refine Lib.hid (.inr (.inr ⟨h2, hm, ?_⟩))
      rw [hr.out] at h2 hm
      have hin : p.heard l = true ∧ lastT l ≤ y ∧ y ≤ 2000 := Classical.byContradiction fun h => hm (verdict_in.1.2 h)
      have hg : p.goes y (doneL p.n l) ≠ false := fun h => h2 (verdict_in.2.1.2 ⟨hin, h⟩)
      rw [hy.out] at hg ⊢
      exact ended_none hE.out hin.1 (by simpa only [ne_eq, Bool.not_eq_false] using hg)
    rcases hr3.out with h | h | ⟨h, h2, h3⟩
    · have hr2 : (r == 2) = true := by simp [h]
      clear h
      go_wp2_with fail
      refine (laws_alive _).mono ?_
      rintro e w7 ⟨rfl, hb7⟩
      clear rcA0 rzA0 rlA0
      have A0 := A0.ext hb7
      have V := Lib.hid (V.out.ext hb7)
      have U := Lib.hid (U.out.ext hb7)
      have X := Lib.hid (X.out.ext hb7)
      have Y := Lib.hid (Y.out.ext hb7)
      have E := ext_trans E hb7
      clear hb7
      go_wp2_with fail
      go_ret
      exact ⟨rfl, E⟩
    · have hr2 : (r == 2) = false := by simp [h]
      have hrm : (r == -1) = true := by simp [h]
      clear h
      go_wp2_with fail
      refine (laws_alive _).mono ?_
      rintro e w7 ⟨rfl, hb7⟩
      clear rcA0 rzA0 rlA0
      have A0 := A0.ext hb7
      have V := Lib.hid (V.out.ext hb7)
      have U := Lib.hid (U.out.ext hb7)
      have X := Lib.hid (X.out.ext hb7)
      have Y := Lib.hid (Y.out.ext hb7)
      have E := ext_trans E hb7
      clear hb7
      go_wp2_with fail
      go_ret
      exact ⟨rfl, E⟩
    · have hr2 : (r == 2) = false := by simp [h]
      have hrm : (r == -1) = false := by simp [h2]
      clear h h2
      go_wp2_with fail
      refine (laws_alive _).mono ?_
      rintro e w7 ⟨rfl, hb7⟩
      clear rcA0 rzA0 rlA0
      have A0 := A0.ext hb7
      have V := Lib.hid (V.out.ext hb7)
      have U := Lib.hid (U.out.ext hb7)
      have X := Lib.hid (X.out.ext hb7)
      have Y := Lib.hid (Y.out.ext hb7)
      have E := ext_trans E hb7
      clear hb7
      go_wp2_with fail
      go_ret
      exact ⟨rfl, E⟩
  have hE : p.ended l = some L := by
    have h := hok.out
    cases he : p.ended l
    · rw [he] at h; cases h
    · rw [hL.out, he]; rfl
  have Hes := Lib.hid (ended_some hE)
  clear hE
  obtain ⟨y2, hy2⟩ : ∃ x, Hid (x = lastT L) := ⟨_, rfl⟩
  have Hlt2 : Hid (y2 = if M = 0 then 0 else (hA L (M - 1)).tm) := by rw [hy2.out, hM.out]; exact Lib.hid rfl
  have hNM : N ≤ M := by obtain ⟨-, -, -, -, -, t, ht⟩ := Hes.out; rw [hM.out, hN.out, ht, List.length_append]; omega
  have hM5 : M ≤ 5 := by have h1 := Hes.out.1; have h2 := Hes.out.2.2.2.2.1; have := (plok_in (fits_ok (heard_iff.1 h1).1).1).2.2.1; rw [hM.out]; omega
  have hMc : M ≤ cX ∧ cX ≤ 9223372036854775807 := by obtain ⟨_, _, he, h1, h2, -⟩ := X.out.open; cases he; rw [hM.out]; exact ⟨h1, h2⟩
  clear rcA0 rzA0 rlA0
  go_upto_if 79 with fail
  go_cut [11] (fun v5 wx => v5 = .int .i64 y2 ∧ wx = w6)
  case first =>
    by_cases hN0 : 0 < M
    · have hN0i : (0 : Int) < (M : Int) := by omega
      obtain ⟨gq, ha, hgq, -, cy⟩ := X.out.atA (j := M - 1) (by rw [← hM.out]; omega)
      subst ha
      rw [show (hA L (M - 1)).tm = y2 by rw [Hlt2.out, if_neg (by omega)]] at cy
      have hk1 : (M : Int) - 1 = ((M - 1 : Nat) : Int) := by omega
      have hk1N : M - 1 < M := by omega
      have hk1i : 0 ≤ (M : Int) - 1 := by omega
      have hk1M : (M : Int) - 1 < (M : Int) := by omega
      have hk1n : ((M : Int) - 1).toNat = M - 1 := by omega
      go_wp2_with fail
      go_meet
      exact ⟨rfl, rfl⟩
    · have hN0i : ¬ (0 : Int) < (M : Int) := by omega
      have hy0 : y2 = 0 := by rw [Hlt2.out, if_pos (by omega)]
      go_wp2_with fail
      go_meet
      exact ⟨by rw [hy0], rfl⟩
  rename World => wt
  obtain ⟨rfl, rfl⟩ := hcut
  obtain ⟨rcA0, rzA0⟩ := (A0).rules; have rlA0 := (A0).lt
  go_wp2_with fail
  refine (after_ok Hes.out.2.2.1 hy2.out (V.out.base (Nat.zero_le _)) (X.out.base (Nat.zero_le _)) (by rw [← hM.out]; omega)).mono ?_
  rintro e w7 ⟨vD, rfl, hD, hb7⟩
  clear rcA0 rzA0 rlA0
  have A0 := A0.ext hb7
  have V := Lib.hid (V.out.ext hb7)
  have U := Lib.hid (U.out.ext hb7)
  have X := Lib.hid (X.out.ext hb7)
  have Y := Lib.hid (Y.out.ext hb7)
  have E := ext_trans E hb7
  clear hb7
  obtain ⟨aD, cD, rfl, -⟩ := hD.open
  have D := Lib.hid hD
  clear hD
  obtain ⟨d, hd⟩ : ∃ d, Hid (d = doneL p.n L) := ⟨_, rfl⟩
  rw [← hd.out] at D ⊢
  go_upto_region 18 with fail
  obtain ⟨w8, hw8, A12, hs8, hb8⟩ := one_box w7 #[.int .i64 y2, .slice aD d.length cD] 43
  rw [← hw8.out]
  have A0 := A0.ext hb8
  have V := Lib.hid (V.out.ext hb8)
  have U := Lib.hid (U.out.ext hb8)
  have X := Lib.hid (X.out.ext hb8)
  have Y := Lib.hid (Y.out.ext hb8)
  have D := Lib.hid (D.out.ext hb8)
  have E := ext_trans E hb8
  clear hb8
  have hpw : IntKind.i64.wrap (p.pts - 1) = (M : Int) := by have h1 := Hes.out.1; have h2 := Hes.out.2.2.2.2.1; obtain ⟨q1, q2, q3, -⟩ := plok_in (fits_ok (heard_iff.1 h1).1).1; rw [hM.out, IntWalk.i64_in _ (by omega)]; omega
  have hNc : N ≤ cX := by omega
  have hNci : (N : Int) ≤ (cX : Int) := by omega
  have hr01 : Hid (r = 1 ∨ r = 0) := by
    have h := Hes.out
    have hin : p.heard l = true ∧ lastT l ≤ y ∧ y ≤ 2000 := ⟨h.1, by rw [hy.out]; exact Int.le_refl _, by rw [hy.out]; exact (last_in h.1).2⟩
    have hg : p.goes y (doneL p.n l) = true := by rw [hy.out]; exact h.2.1
    by_cases hn : l.length + 1 = p.n
    · exact Lib.hid (.inr (hr.out.trans (verdict_in.2.2.1.2 ⟨hin, hg, hn⟩)))
    · exact Lib.hid (.inl (hr.out.trans (verdict_in.2.2.2.2 ⟨hin, hg, hn⟩)))
  have hv0 : Hid (p.verdict L y2 = 0) := Lib.hid (verdict_in.2.2.1.2 ⟨⟨Hes.out.2.2.1, by rw [hy2.out]; exact Int.le_refl _, by rw [hy2.out]; exact (last_in Hes.out.2.2.1).2⟩, by rw [hy2.out]; exact Hes.out.2.2.2.1, Hes.out.2.2.2.2.1⟩)
  have hkp : Hid (keeps p d = true) := by rw [hd.out]; exact Lib.hid (keeps_done Hes.out.2.2.1 Hes.out.2.2.2.1 Hes.out.2.2.2.2.1)
  have htk : Hid (decide (L.take N = l) = true) := by obtain ⟨-, -, -, -, -, t, ht⟩ := Hes.out; refine Lib.hid (decide_eq_true ?_); rw [ht, hN.out, List.take_left]
  have hNL : Hid (N ≤ L.length) := Lib.hid (by rw [← hM.out]; exact hNM)
  have hcases : ((r == 1) = true) ∨ ((r == 1) = false ∧ (r == 0) = true) := by rcases hr01.out with h | h <;> simp [h]
  have Hc := Lib.hid hcases
  clear hcases
  rcases Hc.out with hr1 | ⟨hr1, hr0⟩
  · skip
    obtain ⟨rcA0, rzA0⟩ := (A0).rules; have rlA0 := (A0).lt
    obtain ⟨rcA12, rzA12⟩ := (A12).rules; have rlA12 := (A12).lt
    go_wp2_with fail
    refine (laws_sameHeard (L.take N) l _ _ _ (Hps.takeK (n := M) (X.out.base (Nat.zero_le _)) hNL.out) (U.out.base (Nat.zero_le _))).mono ?_
    rintro e w9 ⟨rfl, hb9⟩
    clear rcA0 rzA0 rlA0 rcA12 rzA12 rlA12
    have A0 := A0.ext hb9
    have A12 := A12.ext hb9
    have V := Lib.hid (V.out.ext hb9)
    have U := Lib.hid (U.out.ext hb9)
    have X := Lib.hid (X.out.ext hb9)
    have Y := Lib.hid (Y.out.ext hb9)
    have D := Lib.hid (D.out.ext hb9)
    have E := ext_trans E hb9
    clear hb9
    rw [htk.out]
    obtain ⟨rcA0, rzA0⟩ := (A0).rules; have rlA0 := (A0).lt
    obtain ⟨rcA12, rzA12⟩ := (A12).rules; have rlA12 := (A12).lt
    go_wp2_with fail
    refine (impl_VerdictOf p _ _ L y2 _ (V.out.base (Nat.zero_le _)) (X.out.base (Nat.zero_le _)) (by rw [← hM.out]; omega)).mono ?_
    rintro e w10 ⟨rfl, hb10⟩
    clear rcA0 rzA0 rlA0 rcA12 rzA12 rlA12
    have A0 := A0.ext hb10
    have A12 := A12.ext hb10
    have V := Lib.hid (V.out.ext hb10)
    have U := Lib.hid (U.out.ext hb10)
    have X := Lib.hid (X.out.ext hb10)
    have Y := Lib.hid (Y.out.ext hb10)
    have D := Lib.hid (D.out.ext hb10)
    have E := ext_trans E hb10
    clear hb10
    rw [hv0.out]
    obtain ⟨rcA0, rzA0⟩ := (A0).rules; have rlA0 := (A0).lt
    obtain ⟨rcA12, rzA12⟩ := (A12).rules; have rlA12 := (A12).lt
    go_wp2_with fail
    refine (impl_KeepsOk p _ _ d _ (V.out.base (Nat.zero_le _)) (D.out.base (Nat.zero_le _))).mono ?_
    rintro e w11 ⟨rfl, hb11⟩
    clear rcA0 rzA0 rlA0 rcA12 rzA12 rlA12
    have A0 := A0.ext hb11
    have A12 := A12.ext hb11
    have V := Lib.hid (V.out.ext hb11)
    have U := Lib.hid (U.out.ext hb11)
    have X := Lib.hid (X.out.ext hb11)
    have Y := Lib.hid (Y.out.ext hb11)
    have D := Lib.hid (D.out.ext hb11)
    have E := ext_trans E hb11
    clear hb11
    rw [hkp.out]
    go_wp2_with fail
    go_ret
    exact ⟨rfl, E⟩
  · skip
    obtain ⟨rcA0, rzA0⟩ := (A0).rules; have rlA0 := (A0).lt
    obtain ⟨rcA12, rzA12⟩ := (A12).rules; have rlA12 := (A12).lt
    go_wp2_with fail
    refine (laws_sameHeard (L.take N) l _ _ _ (Hps.takeK (n := M) (X.out.base (Nat.zero_le _)) hNL.out) (U.out.base (Nat.zero_le _))).mono ?_
    rintro e w9 ⟨rfl, hb9⟩
    clear rcA0 rzA0 rlA0 rcA12 rzA12 rlA12
    have A0 := A0.ext hb9
    have A12 := A12.ext hb9
    have V := Lib.hid (V.out.ext hb9)
    have U := Lib.hid (U.out.ext hb9)
    have X := Lib.hid (X.out.ext hb9)
    have Y := Lib.hid (Y.out.ext hb9)
    have D := Lib.hid (D.out.ext hb9)
    have E := ext_trans E hb9
    clear hb9
    rw [htk.out]
    obtain ⟨rcA0, rzA0⟩ := (A0).rules; have rlA0 := (A0).lt
    obtain ⟨rcA12, rzA12⟩ := (A12).rules; have rlA12 := (A12).lt
    go_wp2_with fail
    refine (impl_VerdictOf p _ _ L y2 _ (V.out.base (Nat.zero_le _)) (X.out.base (Nat.zero_le _)) (by rw [← hM.out]; omega)).mono ?_
    rintro e w10 ⟨rfl, hb10⟩
    clear rcA0 rzA0 rlA0 rcA12 rzA12 rlA12
    have A0 := A0.ext hb10
    have A12 := A12.ext hb10
    have V := Lib.hid (V.out.ext hb10)
    have U := Lib.hid (U.out.ext hb10)
    have X := Lib.hid (X.out.ext hb10)
    have Y := Lib.hid (Y.out.ext hb10)
    have D := Lib.hid (D.out.ext hb10)
    have E := ext_trans E hb10
    clear hb10
    rw [hv0.out]
    obtain ⟨rcA0, rzA0⟩ := (A0).rules; have rlA0 := (A0).lt
    obtain ⟨rcA12, rzA12⟩ := (A12).rules; have rlA12 := (A12).lt
    go_wp2_with fail
    refine (impl_KeepsOk p _ _ d _ (V.out.base (Nat.zero_le _)) (D.out.base (Nat.zero_le _))).mono ?_
    rintro e w11 ⟨rfl, hb11⟩
    clear rcA0 rzA0 rlA0 rcA12 rzA12 rlA12
    have A0 := A0.ext hb11
    have A12 := A12.ext hb11
    have V := Lib.hid (V.out.ext hb11)
    have U := Lib.hid (U.out.ext hb11)
    have X := Lib.hid (X.out.ext hb11)
    have Y := Lib.hid (Y.out.ext hb11)
    have D := Lib.hid (D.out.ext hb11)
    have E := ext_trans E hb11
    clear hb11
    rw [hkp.out]
    go_wp2_with fail
    go_ret
    exact ⟨rfl, E⟩
end Go.Proofs.Ytffcfambgcaikaa
