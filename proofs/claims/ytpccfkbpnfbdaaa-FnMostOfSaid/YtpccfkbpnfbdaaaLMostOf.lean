/- The walk of FnMostOf: it returns true, whatever code came in. Condition: the bytes of the code can be read. -/
import Derived.Test.YtpccfkbpnfbdaaaDrawPair
import Derived.Test.YtpccfkbpnfbdaaaMostMath
import Derived.Test.YtpccfkbpnfbdaaaClosed
import Derived.Test.YtpccfkbpnfbdaaaSame
import Derived.Test.YtpccfkbpnfbdaaaSameT
import Derived.Test.YtpccfkbpnfbdaaaLawInts
namespace Go.Proofs.Ytpccfkbpnfbdaaa
open Go.RowKit
set_option linter.unusedVariables false
set_option linter.unusedSimpArgs false
set_option maxRecDepth 100000 in
set_option maxHeartbeats 8000000 in
theorem walk_MostOf (a : Option Addr) (n cap : Nat) (w : World) (h : Byt w w.heap.size a n cap) :
    Calls Try.prog 5 #[.slice a n cap] w fun e w' => e = .returned (.bool true) ∧ Below w.heap.size w w' := by
  have H := Lib.hid h
  obtain ⟨hncap, hcap, -⟩ := id h
  clear h
  by_cases hbig : 1048576 < n
  · go_enter Try.func5, Try.ntmps5
    go_wp2_with fail
    go_ret
    exact ⟨rfl, ext_refl _⟩
  go_enter Try.func5, Try.ntmps5
  go_wp2_with fail
  refine (spec_DrawMostOf a n cap w H.out).mono ?_
  rintro e w1 ⟨bs, p, f, t, rfl, hV, hl, h0, h7, hb1⟩
  have E := hb1
  clear hb1
  obtain ⟨av, cv, rfl, -⟩ := hV.open
  have V := Lib.hid hV
  clear hV
  go_wp2_with fail
  obtain ⟨w2, hw2, A0, hs2, hb2⟩ := one_box w1 #[.int .i64 p.pts, .slice av p.bs.length cv] 29
  rw [← hw2.out]
  have V := Lib.hid (V.out.ext hb2)
  have E := ext_trans E hb2
  clear hb2
  obtain ⟨rcA0, rzA0⟩ := (A0).rules; have rlA0 := (A0).lt
  go_wp2_with fail
  obtain ⟨x, hx⟩ : ∃ x, Hid (x = p.most f t) := ⟨_, rfl⟩
  obtain ⟨ok, hok⟩ : ∃ b, Hid (b = p.mostOk f t) := ⟨_, rfl⟩
  have hxb : -6336 ≤ x ∧ x ≤ 100000 := by rw [hx.out]; exact most_in p f t
  refine (impl_MostOf p f t _ _ (V.out.base (Nat.zero_le _))).mono ?_
  rintro e w3 ⟨rfl, hb3⟩
  clear rcA0 rzA0 rlA0
  have A0 := A0.ext hb3
  have V := Lib.hid (V.out.ext hb3)
  have E := ext_trans E hb3
  clear hb3
  rw [← hx.out, ← hok.out]
  obtain ⟨rcA0, rzA0⟩ := (A0).rules; have rlA0 := (A0).lt
  go_wp2_with fail
  refine (spec_MostOf p f t _ _ (V.out.base (Nat.zero_le _))).mono ?_
  rintro e w4 ⟨rfl, hb4⟩
  clear rcA0 rzA0 rlA0
  have A0 := A0.ext hb4
  have V := Lib.hid (V.out.ext hb4)
  have E := ext_trans E hb4
  clear hb4
  rw [← hx.out, ← hok.out]
  obtain ⟨rcA0, rzA0⟩ := (A0).rules; have rlA0 := (A0).lt
  cases hokc : ok
  · have hx0 : x = 0 := by rw [hx.out]; exact most_no (by rw [← hok.out]; exact hokc)
    have hxd : (x == 0) = true := by simp [hx0]
    clear hokc hx0
    go_wp2_with fail
    refine (laws_alive _).mono ?_
    rintro e w5 ⟨rfl, hb5⟩
    clear rcA0 rzA0 rlA0
    have A0 := A0.ext hb5
    have V := Lib.hid (V.out.ext hb5)
    have E := ext_trans E hb5
    clear hb5
    go_wp2_with fail
    go_ret
    exact ⟨rfl, E⟩
  · have Hok : Hid (p.mostOk f t = true) := by rw [← hok.out]; exact Lib.hid hokc
    clear hokc
    have HF : Hid (p.fits = true) := by obtain ⟨_, _, _, _, _, _, h, _⟩ := most_parts Hok.out; exact Lib.hid h
    obtain ⟨z, hz⟩ : ∃ x, Hid (x = p.most t f) := ⟨_, rfl⟩
    obtain ⟨lok, hlok⟩ : ∃ b, Hid (b = p.mostOk t f) := ⟨_, rfl⟩
    have hzb : -6336 ≤ z ∧ z ≤ 100000 := by rw [hz.out]; exact most_in p t f
    obtain ⟨P, hP⟩ : ∃ P : Pl, Hid (P = (p.plus [⟨f, t, x⟩]).told) := ⟨_, rfl⟩
    obtain ⟨k1, hk1⟩ : ∃ b, Hid (b = (p.plus [⟨f, t, x⟩]).ok) := ⟨_, rfl⟩
    obtain ⟨S, hS⟩ : ∃ P : Pl, Hid (P = (p.plus [⟨f, t, x - 1⟩]).told) := ⟨_, rfl⟩
    obtain ⟨k2, hk2⟩ : ∃ b, Hid (b = (p.plus [⟨f, t, x - 1⟩]).ok) := ⟨_, rfl⟩
    have HP1 : Hid (k1 = true → P.fits = true ∧ P.n = p.n ∧ ∀ i j, i < p.n → j < p.n → p.clo i j = P.clo i j) := fun h => by
      rw [hk1.out] at h
      have e : P = p.plus [⟨f, t, x⟩] := by rw [hP.out]; exact if_pos h
      rw [e]
      rw [hx.out] at h ⊢
      obtain ⟨a1, a2⟩ := most_same Hok.out h
      exact ⟨a1, rfl, a2⟩
    have HS1 : Hid (k2 = true → S.fits = (!lok || decide (-z < x))) := fun h => by
      rw [hk2.out] at h
      have e : S = p.plus [⟨f, t, x - 1⟩] := by rw [hS.out]; exact if_pos h
      rw [e]
      rw [hx.out] at h ⊢
      rw [hlok.out, hz.out]
      exact most_less Hok.out h
    go_wp2_with fail
    refine (impl_ClosedOf p _ _ (V.out.base (Nat.zero_le _))).mono ?_
    rintro e w5 ⟨vD, hsD, rfl, hDD, hb5⟩
    clear rcA0 rzA0 rlA0
    have A0 := A0.ext hb5
    have V := Lib.hid (V.out.ext hb5)
    have E := ext_trans E hb5
    clear hb5
    rw [HF.out]
    have DT := Lib.hid (hDD HF.out)
    clear hDD
    obtain ⟨aD, cD, rfl, hcD, hcD2⟩ := DT.out.open
    obtain ⟨rcA0, rzA0⟩ := (A0).rules; have rlA0 := (A0).lt
    go_wp2_with fail
    refine (impl_WithBound p ⟨f, t, x⟩ _ _ (V.out.base (Nat.zero_le _)) (by omega)).mono ?_
    rintro e w6 ⟨vX, rfl, hX, hb6⟩
    clear rcA0 rzA0 rlA0
    have A0 := A0.ext hb6
    have V := Lib.hid (V.out.ext hb6)
    have DT := Lib.hid (DT.out.ext hb6)
    have E := ext_trans E hb6
    clear hb6
    have X := Lib.hid hX
    clear hX
    rw [← hP.out] at X ⊢
    rw [← hk1.out]
    obtain ⟨aX, cX, rfl, -⟩ := X.out.open
    obtain ⟨rcA0, rzA0⟩ := (A0).rules; have rlA0 := (A0).lt
    go_wp2_with fail
    obtain ⟨w7, hw7, A12, hs7, hb7⟩ := one_box w6 #[.int .i64 P.pts, .slice aX P.bs.length cX] 29
    rw [← hw7.out]
    clear rcA0 rzA0 rlA0
    have A0 := A0.ext hb7
    have V := Lib.hid (V.out.ext hb7)
    have DT := Lib.hid (DT.out.ext hb7)
    have X := Lib.hid (X.out.ext hb7)
    have E := ext_trans E hb7
    clear hb7
    obtain ⟨rcA0, rzA0⟩ := (A0).rules; have rlA0 := (A0).lt
    obtain ⟨rcA12, rzA12⟩ := (A12).rules; have rlA12 := (A12).lt
    go_wp2_with fail
    obtain ⟨F1, hF1⟩ : ∃ b, Hid (b = P.fits) := ⟨_, rfl⟩
    refine (impl_ClosedOf P _ _ (X.out.base (Nat.zero_le _))).mono ?_
    rintro e w8 ⟨vE, hsE, rfl, hEE, hb8⟩
    clear rcA0 rzA0 rlA0 rcA12 rzA12 rlA12
    have A0 := A0.ext hb8
    have A12 := A12.ext hb8
    have V := Lib.hid (V.out.ext hb8)
    have DT := Lib.hid (DT.out.ext hb8)
    have X := Lib.hid (X.out.ext hb8)
    have E := ext_trans E hb8
    clear hb8
    rw [← hF1.out] at hEE ⊢
    obtain ⟨rcA0, rzA0⟩ := (A0).rules; have rlA0 := (A0).lt
    obtain ⟨rcA12, rzA12⟩ := (A12).rules; have rlA12 := (A12).lt
    cases hk1c : k1
    · clear hk1c hEE
      go_wp2_with fail
      refine (impl_LeastOf p f t _ _ (V.out.base (Nat.zero_le _))).mono ?_
      rintro e w9 ⟨rfl, hb9⟩
      clear rcA0 rzA0 rlA0 rcA12 rzA12 rlA12
      have A0 := A0.ext hb9
      have A12 := A12.ext hb9
      have V := Lib.hid (V.out.ext hb9)
      have DT := Lib.hid (DT.out.ext hb9)
      have X := Lib.hid (X.out.ext hb9)
      have E := ext_trans E hb9
      clear hb9
      rw [← hz.out, ← hlok.out]
      obtain ⟨rcA0, rzA0⟩ := (A0).rules; have rlA0 := (A0).lt
      obtain ⟨rcA12, rzA12⟩ := (A12).rules; have rlA12 := (A12).lt
      go_wp2_with fail
      refine (impl_WithBound p ⟨f, t, x - 1⟩ _ _ (V.out.base (Nat.zero_le _)) (by omega)).mono ?_
      rintro e w10 ⟨vZ, rfl, hZ, hb10⟩
      clear rcA0 rzA0 rlA0 rcA12 rzA12 rlA12
      have A0 := A0.ext hb10
      have A12 := A12.ext hb10
      have V := Lib.hid (V.out.ext hb10)
      have DT := Lib.hid (DT.out.ext hb10)
      have X := Lib.hid (X.out.ext hb10)
      have E := ext_trans E hb10
      clear hb10
      have Z := Lib.hid hZ
      clear hZ
      rw [← hS.out] at Z ⊢
      rw [← hk2.out]
      obtain ⟨aZ, cZ, rfl, -⟩ := Z.out.open
      obtain ⟨rcA0, rzA0⟩ := (A0).rules; have rlA0 := (A0).lt
      obtain ⟨rcA12, rzA12⟩ := (A12).rules; have rlA12 := (A12).lt
      go_upto_region 15 with fail
      obtain ⟨w11, hw11, A18, hs11, hb11⟩ := one_box w10 #[.int .i64 S.pts, .slice aZ S.bs.length cZ] 29
      rw [← hw11.out]
      clear rcA0 rzA0 rlA0 rcA12 rzA12 rlA12
      have A0 := A0.ext hb11
      have A12 := A12.ext hb11
      have V := Lib.hid (V.out.ext hb11)
      have DT := Lib.hid (DT.out.ext hb11)
      have X := Lib.hid (X.out.ext hb11)
      have Z := Lib.hid (Z.out.ext hb11)
      have E := ext_trans E hb11
      clear hb11
      obtain ⟨rcA0, rzA0⟩ := (A0).rules; have rlA0 := (A0).lt
      obtain ⟨rcA12, rzA12⟩ := (A12).rules; have rlA12 := (A12).lt
      obtain ⟨rcA18, rzA18⟩ := (A18).rules; have rlA18 := (A18).lt
      cases hk2c : k2
      · clear hk2c
        go_wp2_with fail
        go_ret
        exact ⟨rfl, E⟩
      · have HS2 := Lib.hid (HS1.out hk2c)
        clear hk2c
        go_wp2_with fail
        refine (impl_FitsOk S _ _ (Z.out.base (Nat.zero_le _))).mono ?_
        rintro e w12 ⟨rfl, hb12⟩
        clear rcA0 rzA0 rlA0 rcA12 rzA12 rlA12 rcA18 rzA18 rlA18
        have A0 := A0.ext hb12
        have A12 := A12.ext hb12
        have A18 := A18.ext hb12
        have V := Lib.hid (V.out.ext hb12)
        have DT := Lib.hid (DT.out.ext hb12)
        have X := Lib.hid (X.out.ext hb12)
        have Z := Lib.hid (Z.out.ext hb12)
        have E := ext_trans E hb12
        clear hb12
        rw [HS2.out]
        obtain ⟨rcA0, rzA0⟩ := (A0).rules; have rlA0 := (A0).lt
        obtain ⟨rcA12, rzA12⟩ := (A12).rules; have rlA12 := (A12).lt
        obtain ⟨rcA18, rzA18⟩ := (A18).rules; have rlA18 := (A18).lt
        cases lok
        · skip
          go_wp2_with fail
          go_ret
          exact ⟨rfl, E⟩
        · by_cases hzx : -z < x
          · have hd : decide (-z < x) = true := decide_eq_true hzx
            clear hzx
            go_wp2_with fail
            go_ret
            exact ⟨rfl, E⟩
          · have hd : decide (-z < x) = false := decide_eq_false hzx
            clear hzx
            go_wp2_with fail
            go_ret
            exact ⟨rfl, E⟩
    · obtain ⟨b1, b2, b3⟩ := HP1.out hk1c
      have hF2 : F1 = true := by rw [hF1.out]; exact b1
      have ET := hEE hF2
      rw [b2] at ET
      have ET := Lib.hid (ET.congr (fun i j hi hj => (b3 i j hi hj).symm))
      subst hF2
      obtain ⟨aE, cE, rfl, hcE, hcE2⟩ := ET.out.open
      clear hk1c hEE b1 b2 b3
      go_wp2_with fail
      refine (impl_LeastOf p f t _ _ (V.out.base (Nat.zero_le _))).mono ?_
      rintro e w9 ⟨rfl, hb9⟩
      clear rcA0 rzA0 rlA0 rcA12 rzA12 rlA12
      have A0 := A0.ext hb9
      have A12 := A12.ext hb9
      have V := Lib.hid (V.out.ext hb9)
      have DT := Lib.hid (DT.out.ext hb9)
      have X := Lib.hid (X.out.ext hb9)
      have ET := Lib.hid (ET.out.ext hb9)
      have E := ext_trans E hb9
      clear hb9
      rw [← hz.out, ← hlok.out]
      obtain ⟨rcA0, rzA0⟩ := (A0).rules; have rlA0 := (A0).lt
      obtain ⟨rcA12, rzA12⟩ := (A12).rules; have rlA12 := (A12).lt
      go_wp2_with fail
      refine (impl_WithBound p ⟨f, t, x - 1⟩ _ _ (V.out.base (Nat.zero_le _)) (by omega)).mono ?_
      rintro e w10 ⟨vZ, rfl, hZ, hb10⟩
      clear rcA0 rzA0 rlA0 rcA12 rzA12 rlA12
      have A0 := A0.ext hb10
      have A12 := A12.ext hb10
      have V := Lib.hid (V.out.ext hb10)
      have DT := Lib.hid (DT.out.ext hb10)
      have X := Lib.hid (X.out.ext hb10)
      have ET := Lib.hid (ET.out.ext hb10)
      have E := ext_trans E hb10
      clear hb10
      have Z := Lib.hid hZ
      clear hZ
      rw [← hS.out] at Z ⊢
      rw [← hk2.out]
      obtain ⟨aZ, cZ, rfl, -⟩ := Z.out.open
      obtain ⟨rcA0, rzA0⟩ := (A0).rules; have rlA0 := (A0).lt
      obtain ⟨rcA12, rzA12⟩ := (A12).rules; have rlA12 := (A12).lt
      go_upto_region 15 with fail
      obtain ⟨w11, hw11, A18, hs11, hb11⟩ := one_box w10 #[.int .i64 S.pts, .slice aZ S.bs.length cZ] 29
      rw [← hw11.out]
      clear rcA0 rzA0 rlA0 rcA12 rzA12 rlA12
      have A0 := A0.ext hb11
      have A12 := A12.ext hb11
      have V := Lib.hid (V.out.ext hb11)
      have DT := Lib.hid (DT.out.ext hb11)
      have X := Lib.hid (X.out.ext hb11)
      have ET := Lib.hid (ET.out.ext hb11)
      have Z := Lib.hid (Z.out.ext hb11)
      have E := ext_trans E hb11
      clear hb11
      obtain ⟨rcA0, rzA0⟩ := (A0).rules; have rlA0 := (A0).lt
      obtain ⟨rcA12, rzA12⟩ := (A12).rules; have rlA12 := (A12).lt
      obtain ⟨rcA18, rzA18⟩ := (A18).rules; have rlA18 := (A18).lt
      cases hk2c : k2
      · clear hk2c
        go_wp2_with fail
        refine (laws_sameTable _ _ _ _ _ _ _ _ (ET.out.base (Nat.zero_le _)) (DT.out.base (Nat.zero_le _))).mono ?_
        rintro e w12 ⟨rfl, hb12⟩
        clear rcA0 rzA0 rlA0 rcA12 rzA12 rlA12 rcA18 rzA18 rlA18
        have A0 := A0.ext hb12
        have A12 := A12.ext hb12
        have A18 := A18.ext hb12
        have V := Lib.hid (V.out.ext hb12)
        have DT := Lib.hid (DT.out.ext hb12)
        have X := Lib.hid (X.out.ext hb12)
        have ET := Lib.hid (ET.out.ext hb12)
        have Z := Lib.hid (Z.out.ext hb12)
        have E := ext_trans E hb12
        clear hb12
        obtain ⟨rcA0, rzA0⟩ := (A0).rules; have rlA0 := (A0).lt
        obtain ⟨rcA12, rzA12⟩ := (A12).rules; have rlA12 := (A12).lt
        obtain ⟨rcA18, rzA18⟩ := (A18).rules; have rlA18 := (A18).lt
        go_wp2_with fail
        go_ret
        exact ⟨rfl, E⟩
      · have HS2 := Lib.hid (HS1.out hk2c)
        clear hk2c
        go_wp2_with fail
        refine (laws_sameTable _ _ _ _ _ _ _ _ (ET.out.base (Nat.zero_le _)) (DT.out.base (Nat.zero_le _))).mono ?_
        rintro e w12 ⟨rfl, hb12⟩
        clear rcA0 rzA0 rlA0 rcA12 rzA12 rlA12 rcA18 rzA18 rlA18
        have A0 := A0.ext hb12
        have A12 := A12.ext hb12
        have A18 := A18.ext hb12
        have V := Lib.hid (V.out.ext hb12)
        have DT := Lib.hid (DT.out.ext hb12)
        have X := Lib.hid (X.out.ext hb12)
        have ET := Lib.hid (ET.out.ext hb12)
        have Z := Lib.hid (Z.out.ext hb12)
        have E := ext_trans E hb12
        clear hb12
        obtain ⟨rcA0, rzA0⟩ := (A0).rules; have rlA0 := (A0).lt
        obtain ⟨rcA12, rzA12⟩ := (A12).rules; have rlA12 := (A12).lt
        obtain ⟨rcA18, rzA18⟩ := (A18).rules; have rlA18 := (A18).lt
        go_wp2_with fail
        refine (impl_FitsOk S _ _ (Z.out.base (Nat.zero_le _))).mono ?_
        rintro e w13 ⟨rfl, hb13⟩
        clear rcA0 rzA0 rlA0 rcA12 rzA12 rlA12 rcA18 rzA18 rlA18
        have A0 := A0.ext hb13
        have A12 := A12.ext hb13
        have A18 := A18.ext hb13
        have V := Lib.hid (V.out.ext hb13)
        have DT := Lib.hid (DT.out.ext hb13)
        have X := Lib.hid (X.out.ext hb13)
        have ET := Lib.hid (ET.out.ext hb13)
        have Z := Lib.hid (Z.out.ext hb13)
        have E := ext_trans E hb13
        clear hb13
        rw [HS2.out]
        obtain ⟨rcA0, rzA0⟩ := (A0).rules; have rlA0 := (A0).lt
        obtain ⟨rcA12, rzA12⟩ := (A12).rules; have rlA12 := (A12).lt
        obtain ⟨rcA18, rzA18⟩ := (A18).rules; have rlA18 := (A18).lt
        cases lok
        · skip
          go_wp2_with fail
          go_ret
          exact ⟨rfl, E⟩
        · by_cases hzx : -z < x
          · have hd : decide (-z < x) = true := decide_eq_true hzx
            clear hzx
            go_wp2_with fail
            go_ret
            exact ⟨rfl, E⟩
          · have hd : decide (-z < x) = false := decide_eq_false hzx
            clear hzx
            go_wp2_with fail
            go_ret
            exact ⟨rfl, E⟩
end Go.Proofs.Ytpccfkbpnfbdaaa
