/- The walk of FnLoweredBy: it returns true, whatever code came in. Condition: the bytes of the code can be read. -/
import Derived.Test.YtlcmhcfnmohgmaaDrawnN
import Derived.Test.YtlcmhcfnmohgmaaPlanLow
import Derived.Test.YtlcmhcfnmohgmaaSpare
import Derived.Test.YtlcmhcfnmohgmaaSame
namespace Go.Proofs.Ytlcmhcfnmohgmaa
open Go.RowKit
set_option linter.unusedVariables false
set_option linter.unusedSimpArgs false
theorem lowered_len (p : Pl) (k : Int) : (p.lowered k).bs.length ≤ p.bs.length := by
  unfold Pl.lowered
  split
  · simp [Pl.low]
  · simp [Pl.zero]
theorem low_parts {p : Pl} {k : Int} (h : p.lowOk k = true) : p.ok = true ∧ (0 ≤ k ∧ k ≤ 99) ∧ (p.low k).ok = true ∧ p.lowered k = p.low k := by
  have e : p.lowered k = p.low k := if_pos h
  simp only [Pl.lowOk, Bool.and_eq_true, inB_iff] at h
  exact ⟨h.1, h.2.1, h.2.2, e⟩
theorem low_fits {p : Pl} {k : Int} (h : p.lowOk k = true) (hf : (p.lowered k).fits = true) : p.fits = true := by
  obtain ⟨h1, h2, h3, h4⟩ := low_parts h
  rw [h4] at hf
  have := fits_lower (x := 0) h2.1 hf (by rw [low_zero]; exact h1)
  rw [low_zero] at this
  exact this
theorem low_low (p : Pl) (a b : Int) : (p.low a).low b = p.low (a + b) := by
  simp only [Pl.low, List.map_map]
  congr 1
  apply List.map_congr_left
  intro c _
  simp only [Function.comp, Bd.lower]
  congr 1
  omega
theorem low_two {p : Pl} {k : Int} (h : p.lowOk k = true) (h1 : 1 ≤ k) (ho : p.lowOk 1 = true) : (p.lowered 1).lowOk (k - 1) = true ∧ (p.lowered 1).lowered (k - 1) = p.lowered k := by
  obtain ⟨g1, g2, g3, g4⟩ := low_parts h
  obtain ⟨f1, f2, f3, f4⟩ := low_parts ho
  have e : (p.low 1).low (k - 1) = p.low k := by rw [low_low]; congr 1; omega
  have hh : (p.low 1).lowOk (k - 1) = true := by
    simp only [Pl.lowOk, Bool.and_eq_true, inB_iff]
    exact ⟨f3, ⟨by omega, by omega⟩, by rw [e]; exact g3⟩
  rw [f4, g4]
  exact ⟨hh, by rw [show (p.low 1).lowered (k - 1) = (p.low 1).low (k - 1) from if_pos hh]; exact e⟩
set_option maxRecDepth 100000 in
set_option maxHeartbeats 8000000 in
theorem walk_LoweredBy (a : Option Addr) (n cap : Nat) (w : World) (h : Byt w w.heap.size a n cap) :
    Calls Try.prog 4 #[.slice a n cap] w fun e w' => e = .returned (.bool true) ∧ Below w.heap.size w w' := by
  have H := Lib.hid h
  obtain ⟨hncap, hcap, -⟩ := id h
  clear h
  by_cases hbig : 1048576 < n
  · go_enter Try.func4, Try.ntmps4
    go_wp2_with fail
    go_ret
    exact ⟨rfl, ext_refl _⟩
  go_enter Try.func4, Try.ntmps4
  go_wp2_with fail
  refine (spec_DrawLoweredBy a n cap w H.out).mono ?_
  rintro e w1 ⟨bs, p, by_, rfl, hV, hl, h0, h7, hb1⟩
  have E := hb1
  clear hb1
  obtain ⟨av, cv, rfl, -⟩ := hV.open
  have V := Lib.hid hV
  clear hV
  go_wp2_with fail
  obtain ⟨w2, hw2, A0, hs2, hb2⟩ := one_box w1 #[.int .i64 p.pts, .slice av p.bs.length cv] 25
  rw [← hw2.out]
  have V := Lib.hid (V.out.ext hb2)
  have E := ext_trans E hb2
  clear hb2
  obtain ⟨rcA0, rzA0⟩ := (A0).rules; have rlA0 := (A0).lt
  go_wp2_with fail
  obtain ⟨P, hP⟩ : ∃ P : Pl, Hid (P = p.lowered by_) := ⟨_, rfl⟩
  obtain ⟨ok, hok⟩ : ∃ b : Bool, Hid (b = p.lowOk by_) := ⟨_, rfl⟩
  have hPl : P.bs.length ≤ 10 := by rw [hP.out]; have := lowered_len p by_; omega
  refine (impl_LoweredBy p by_ _ _ (V.out.base (Nat.zero_le _)) (by omega)).mono ?_
  rintro e w3 ⟨vX, rfl, hX, hb3⟩
  clear rcA0 rzA0 rlA0
  have A0 := A0.ext hb3
  have V := Lib.hid (V.out.ext hb3)
  have E := ext_trans E hb3
  clear hb3
  have X := Lib.hid hX
  clear hX
  rw [← hP.out] at X ⊢
  rw [← hok.out]
  obtain ⟨aX, cX, rfl, -⟩ := X.out.open
  obtain ⟨rcA0, rzA0⟩ := (A0).rules; have rlA0 := (A0).lt
  go_wp2_with fail
  obtain ⟨w4, hw4, A5, hs4, hb4⟩ := one_box w3 #[.int .i64 P.pts, .slice aX P.bs.length cX] 25
  rw [← hw4.out]
  clear rcA0 rzA0 rlA0
  have A0 := A0.ext hb4
  have V := Lib.hid (V.out.ext hb4)
  have X := Lib.hid (X.out.ext hb4)
  have E := ext_trans E hb4
  clear hb4
  obtain ⟨rcA0, rzA0⟩ := (A0).rules; have rlA0 := (A0).lt
  obtain ⟨rcA5, rzA5⟩ := (A5).rules; have rlA5 := (A5).lt
  go_wp2_with fail
  refine (spec_LoweredBy p by_ _ _ (V.out.base (Nat.zero_le _)) (by omega)).mono ?_
  rintro e w5 ⟨vY, rfl, hY, hb5⟩
  clear rcA0 rzA0 rlA0 rcA5 rzA5 rlA5
  have A0 := A0.ext hb5
  have A5 := A5.ext hb5
  have V := Lib.hid (V.out.ext hb5)
  have X := Lib.hid (X.out.ext hb5)
  have E := ext_trans E hb5
  clear hb5
  have Y := Lib.hid hY
  clear hY
  rw [← hP.out] at Y ⊢
  rw [← hok.out]
  obtain ⟨aY, cY, rfl, -⟩ := Y.out.open
  obtain ⟨rcA0, rzA0⟩ := (A0).rules; have rlA0 := (A0).lt
  obtain ⟨rcA5, rzA5⟩ := (A5).rules; have rlA5 := (A5).lt
  go_wp2_with fail
  obtain ⟨w6, hw6, A7, hs6, hb6⟩ := one_box w5 #[.int .i64 P.pts, .slice aY P.bs.length cY] 25
  rw [← hw6.out]
  clear rcA0 rzA0 rlA0 rcA5 rzA5 rlA5
  have A0 := A0.ext hb6
  have A5 := A5.ext hb6
  have V := Lib.hid (V.out.ext hb6)
  have X := Lib.hid (X.out.ext hb6)
  have Y := Lib.hid (Y.out.ext hb6)
  have E := ext_trans E hb6
  clear hb6
  obtain ⟨rcA0, rzA0⟩ := (A0).rules; have rlA0 := (A0).lt
  obtain ⟨rcA5, rzA5⟩ := (A5).rules; have rlA5 := (A5).lt
  obtain ⟨rcA7, rzA7⟩ := (A7).rules; have rlA7 := (A7).lt
  go_wp2_with fail
  refine (laws_samePlan P P _ _ _ (X.out.base (Nat.zero_le _)) (Y.out.base (Nat.zero_le _))).mono ?_
  rintro e w7 ⟨rfl, hb7⟩
  clear rcA0 rzA0 rlA0 rcA5 rzA5 rlA5 rcA7 rzA7 rlA7
  have A0 := A0.ext hb7
  have A5 := A5.ext hb7
  have A7 := A7.ext hb7
  have V := Lib.hid (V.out.ext hb7)
  have X := Lib.hid (X.out.ext hb7)
  have Y := Lib.hid (Y.out.ext hb7)
  have E := ext_trans E hb7
  clear hb7
  rw [decide_eq_true rfl]
  obtain ⟨rcA0, rzA0⟩ := (A0).rules; have rlA0 := (A0).lt
  obtain ⟨rcA5, rzA5⟩ := (A5).rules; have rlA5 := (A5).lt
  obtain ⟨rcA7, rzA7⟩ := (A7).rules; have rlA7 := (A7).lt
  cases hokc : ok
  · have HT := Lib.hid (show P = Pl.zero by rw [hP.out]; exact lowered_no (by rw [← hok.out]; exact hokc))
    clear hokc
    go_wp2_with fail
    refine (laws_samePlan P Pl.zero _ (.slice none 0 0) _ (X.out.base (Nat.zero_le _)) (Bds.nil _ _)).mono ?_
    rintro e w8 ⟨rfl, hb8⟩
    clear rcA0 rzA0 rlA0 rcA5 rzA5 rlA5 rcA7 rzA7 rlA7
    have A0 := A0.ext hb8
    have A5 := A5.ext hb8
    have A7 := A7.ext hb8
    have V := Lib.hid (V.out.ext hb8)
    have X := Lib.hid (X.out.ext hb8)
    have Y := Lib.hid (Y.out.ext hb8)
    have E := ext_trans E hb8
    clear hb8
    rw [decide_eq_true HT.out]
    obtain ⟨rcA0, rzA0⟩ := (A0).rules; have rlA0 := (A0).lt
    obtain ⟨rcA5, rzA5⟩ := (A5).rules; have rlA5 := (A5).lt
    obtain ⟨rcA7, rzA7⟩ := (A7).rules; have rlA7 := (A7).lt
    go_wp2_with fail
    refine (laws_alive _).mono ?_
    rintro e w9 ⟨rfl, hb9⟩
    clear rcA0 rzA0 rlA0 rcA5 rzA5 rlA5 rcA7 rzA7 rlA7
    have A0 := A0.ext hb9
    have A5 := A5.ext hb9
    have A7 := A7.ext hb9
    have V := Lib.hid (V.out.ext hb9)
    have X := Lib.hid (X.out.ext hb9)
    have Y := Lib.hid (Y.out.ext hb9)
    have E := ext_trans E hb9
    clear hb9
    go_wp2_with fail
    go_ret
    exact ⟨rfl, E⟩
  · have Hok : Hid (p.lowOk by_ = true) := by rw [← hok.out]; exact Lib.hid hokc
    clear hokc
    have hby := (low_parts Hok.out).2.1
    obtain ⟨F, hF⟩ : ∃ P : Pl, Hid (P = p.lowered 1) := ⟨_, rfl⟩
    obtain ⟨one, hone⟩ : ∃ b : Bool, Hid (b = p.lowOk 1) := ⟨_, rfl⟩
    have hFl : F.bs.length ≤ 10 := by rw [hF.out]; have := lowered_len p 1; omega
    obtain ⟨S, hS⟩ : ∃ P : Pl, Hid (P = F.lowered (by_ - 1)) := ⟨_, rfl⟩
    obtain ⟨two, htwo⟩ : ∃ b : Bool, Hid (b = F.lowOk (by_ - 1)) := ⟨_, rfl⟩
    have hSl : S.bs.length ≤ 10 := by rw [hS.out]; have := lowered_len F (by_ - 1); omega
    have hfits : Hid (P.fits = true → p.fits = true) := fun h => low_fits Hok.out (by rw [← hP.out]; exact h)
    have hpair : Hid (1 ≤ by_ → one = true → two = true ∧ S = P) := fun h1 h2 => by
      have := low_two Hok.out h1 (by rw [← hone.out]; exact h2)
      rw [htwo.out, hS.out, hF.out, hP.out]; exact this
    go_wp2_with fail
    refine (impl_LoweredBy p 1 _ _ (V.out.base (Nat.zero_le _)) (by omega)).mono ?_
    rintro e w8 ⟨vQ, rfl, hQ, hb8⟩
    clear rcA0 rzA0 rlA0 rcA5 rzA5 rlA5 rcA7 rzA7 rlA7
    have A0 := A0.ext hb8
    have A5 := A5.ext hb8
    have A7 := A7.ext hb8
    have V := Lib.hid (V.out.ext hb8)
    have X := Lib.hid (X.out.ext hb8)
    have Y := Lib.hid (Y.out.ext hb8)
    have E := ext_trans E hb8
    clear hb8
    have Q := Lib.hid hQ
    clear hQ
    rw [← hF.out] at Q ⊢
    rw [← hone.out]
    obtain ⟨aQ, cQ, rfl, -⟩ := Q.out.open
    obtain ⟨rcA0, rzA0⟩ := (A0).rules; have rlA0 := (A0).lt
    obtain ⟨rcA5, rzA5⟩ := (A5).rules; have rlA5 := (A5).lt
    obtain ⟨rcA7, rzA7⟩ := (A7).rules; have rlA7 := (A7).lt
    go_wp2_with fail
    obtain ⟨w9, hw9, A9, hs9, hb9⟩ := one_box w8 #[.int .i64 F.pts, .slice aQ F.bs.length cQ] 25
    rw [← hw9.out]
    clear rcA0 rzA0 rlA0 rcA5 rzA5 rlA5 rcA7 rzA7 rlA7
    have A0 := A0.ext hb9
    have A5 := A5.ext hb9
    have A7 := A7.ext hb9
    have V := Lib.hid (V.out.ext hb9)
    have X := Lib.hid (X.out.ext hb9)
    have Y := Lib.hid (Y.out.ext hb9)
    have Q := Lib.hid (Q.out.ext hb9)
    have E := ext_trans E hb9
    clear hb9
    obtain ⟨rcA0, rzA0⟩ := (A0).rules; have rlA0 := (A0).lt
    obtain ⟨rcA5, rzA5⟩ := (A5).rules; have rlA5 := (A5).lt
    obtain ⟨rcA7, rzA7⟩ := (A7).rules; have rlA7 := (A7).lt
    obtain ⟨rcA9, rzA9⟩ := (A9).rules; have rlA9 := (A9).lt
    go_wp2_with fail
    refine (impl_LoweredBy F (by_ - 1) _ _ (Q.out.base (Nat.zero_le _)) (by omega)).mono ?_
    rintro e w10 ⟨vZ, rfl, hZ, hb10⟩
    clear rcA0 rzA0 rlA0 rcA5 rzA5 rlA5 rcA7 rzA7 rlA7 rcA9 rzA9 rlA9
    have A0 := A0.ext hb10
    have A5 := A5.ext hb10
    have A7 := A7.ext hb10
    have A9 := A9.ext hb10
    have V := Lib.hid (V.out.ext hb10)
    have X := Lib.hid (X.out.ext hb10)
    have Y := Lib.hid (Y.out.ext hb10)
    have Q := Lib.hid (Q.out.ext hb10)
    have E := ext_trans E hb10
    clear hb10
    have Z := Lib.hid hZ
    clear hZ
    rw [← hS.out] at Z ⊢
    rw [← htwo.out]
    obtain ⟨aZ, cZ, rfl, -⟩ := Z.out.open
    obtain ⟨rcA0, rzA0⟩ := (A0).rules; have rlA0 := (A0).lt
    obtain ⟨rcA5, rzA5⟩ := (A5).rules; have rlA5 := (A5).lt
    obtain ⟨rcA7, rzA7⟩ := (A7).rules; have rlA7 := (A7).lt
    obtain ⟨rcA9, rzA9⟩ := (A9).rules; have rlA9 := (A9).lt
    go_wp2_with fail
    obtain ⟨w11, hw11, A11, hs11, hb11⟩ := one_box w10 #[.int .i64 S.pts, .slice aZ S.bs.length cZ] 25
    rw [← hw11.out]
    clear rcA0 rzA0 rlA0 rcA5 rzA5 rlA5 rcA7 rzA7 rlA7 rcA9 rzA9 rlA9
    have A0 := A0.ext hb11
    have A5 := A5.ext hb11
    have A7 := A7.ext hb11
    have A9 := A9.ext hb11
    have V := Lib.hid (V.out.ext hb11)
    have X := Lib.hid (X.out.ext hb11)
    have Y := Lib.hid (Y.out.ext hb11)
    have Q := Lib.hid (Q.out.ext hb11)
    have Z := Lib.hid (Z.out.ext hb11)
    have E := ext_trans E hb11
    clear hb11
    obtain ⟨rcA0, rzA0⟩ := (A0).rules; have rlA0 := (A0).lt
    obtain ⟨rcA5, rzA5⟩ := (A5).rules; have rlA5 := (A5).lt
    obtain ⟨rcA7, rzA7⟩ := (A7).rules; have rlA7 := (A7).lt
    obtain ⟨rcA9, rzA9⟩ := (A9).rules; have rlA9 := (A9).lt
    obtain ⟨rcA11, rzA11⟩ := (A11).rules; have rlA11 := (A11).lt
    go_wp2_with fail
    refine (impl_FitsOk P _ _ (X.out.base (Nat.zero_le _))).mono ?_
    rintro e w12 ⟨rfl, hb12⟩
    clear rcA0 rzA0 rlA0 rcA5 rzA5 rlA5 rcA7 rzA7 rlA7 rcA9 rzA9 rlA9 rcA11 rzA11 rlA11
    have A0 := A0.ext hb12
    have A5 := A5.ext hb12
    have A7 := A7.ext hb12
    have A9 := A9.ext hb12
    have A11 := A11.ext hb12
    have V := Lib.hid (V.out.ext hb12)
    have X := Lib.hid (X.out.ext hb12)
    have Y := Lib.hid (Y.out.ext hb12)
    have Q := Lib.hid (Q.out.ext hb12)
    have Z := Lib.hid (Z.out.ext hb12)
    have E := ext_trans E hb12
    clear hb12
    obtain ⟨rcA0, rzA0⟩ := (A0).rules; have rlA0 := (A0).lt
    obtain ⟨rcA5, rzA5⟩ := (A5).rules; have rlA5 := (A5).lt
    obtain ⟨rcA7, rzA7⟩ := (A7).rules; have rlA7 := (A7).lt
    obtain ⟨rcA9, rzA9⟩ := (A9).rules; have rlA9 := (A9).lt
    obtain ⟨rcA11, rzA11⟩ := (A11).rules; have rlA11 := (A11).lt
    cases hfP : P.fits
    · clear hfP
      by_cases hb1 : by_ < 1
      · have hd : decide (by_ < 1) = true := decide_eq_true hb1
        go_wp2_with fail
        go_ret
        exact ⟨rfl, E⟩
      · have hd : decide (by_ < 1) = false := decide_eq_false hb1
        cases honc : one
        · clear honc
          go_wp2_with fail
          go_ret
          exact ⟨rfl, E⟩
        · have hts := hpair.out (by omega) honc
          have Hts := Lib.hid hts.2
          have ht2 := hts.1
          subst ht2
          clear hts honc
          go_wp2_with fail
          refine (laws_samePlan S P _ _ _ (Z.out.base (Nat.zero_le _)) (X.out.base (Nat.zero_le _))).mono ?_
          rintro e w13 ⟨rfl, hb13⟩
          clear rcA0 rzA0 rlA0 rcA5 rzA5 rlA5 rcA7 rzA7 rlA7 rcA9 rzA9 rlA9 rcA11 rzA11 rlA11
          have A0 := A0.ext hb13
          have A5 := A5.ext hb13
          have A7 := A7.ext hb13
          have A9 := A9.ext hb13
          have A11 := A11.ext hb13
          have V := Lib.hid (V.out.ext hb13)
          have X := Lib.hid (X.out.ext hb13)
          have Y := Lib.hid (Y.out.ext hb13)
          have Q := Lib.hid (Q.out.ext hb13)
          have Z := Lib.hid (Z.out.ext hb13)
          have E := ext_trans E hb13
          clear hb13
          rw [decide_eq_true Hts.out]
          go_wp2_with fail
          go_ret
          exact ⟨rfl, E⟩
    · have hpf := hfits.out hfP
      have Hpf := Lib.hid hpf
      clear hpf hfP
      go_wp2_with fail
      refine (impl_FitsOk p _ _ (V.out.base (Nat.zero_le _))).mono ?_
      rintro e w13 ⟨rfl, hb13⟩
      clear rcA0 rzA0 rlA0 rcA5 rzA5 rlA5 rcA7 rzA7 rlA7 rcA9 rzA9 rlA9 rcA11 rzA11 rlA11
      have A0 := A0.ext hb13
      have A5 := A5.ext hb13
      have A7 := A7.ext hb13
      have A9 := A9.ext hb13
      have A11 := A11.ext hb13
      have V := Lib.hid (V.out.ext hb13)
      have X := Lib.hid (X.out.ext hb13)
      have Y := Lib.hid (Y.out.ext hb13)
      have Q := Lib.hid (Q.out.ext hb13)
      have Z := Lib.hid (Z.out.ext hb13)
      have E := ext_trans E hb13
      clear hb13
      rw [Hpf.out]
      obtain ⟨rcA0, rzA0⟩ := (A0).rules; have rlA0 := (A0).lt
      obtain ⟨rcA5, rzA5⟩ := (A5).rules; have rlA5 := (A5).lt
      obtain ⟨rcA7, rzA7⟩ := (A7).rules; have rlA7 := (A7).lt
      obtain ⟨rcA9, rzA9⟩ := (A9).rules; have rlA9 := (A9).lt
      obtain ⟨rcA11, rzA11⟩ := (A11).rules; have rlA11 := (A11).lt
      by_cases hb1 : by_ < 1
      · have hd : decide (by_ < 1) = true := decide_eq_true hb1
        go_wp2_with fail
        go_ret
        exact ⟨rfl, E⟩
      · have hd : decide (by_ < 1) = false := decide_eq_false hb1
        cases honc : one
        · clear honc
          go_wp2_with fail
          go_ret
          exact ⟨rfl, E⟩
        · have hts := hpair.out (by omega) honc
          have Hts := Lib.hid hts.2
          have ht2 := hts.1
          subst ht2
          clear hts honc
          go_wp2_with fail
          refine (laws_samePlan S P _ _ _ (Z.out.base (Nat.zero_le _)) (X.out.base (Nat.zero_le _))).mono ?_
          rintro e w14 ⟨rfl, hb14⟩
          clear rcA0 rzA0 rlA0 rcA5 rzA5 rlA5 rcA7 rzA7 rlA7 rcA9 rzA9 rlA9 rcA11 rzA11 rlA11
          have A0 := A0.ext hb14
          have A5 := A5.ext hb14
          have A7 := A7.ext hb14
          have A9 := A9.ext hb14
          have A11 := A11.ext hb14
          have V := Lib.hid (V.out.ext hb14)
          have X := Lib.hid (X.out.ext hb14)
          have Y := Lib.hid (Y.out.ext hb14)
          have Q := Lib.hid (Q.out.ext hb14)
          have Z := Lib.hid (Z.out.ext hb14)
          have E := ext_trans E hb14
          clear hb14
          rw [decide_eq_true Hts.out]
          go_wp2_with fail
          go_ret
          exact ⟨rfl, E⟩
end Go.Proofs.Ytlcmhcfnmohgmaa
