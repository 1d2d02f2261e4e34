/- The walk of FnWithoutBound: it returns true, whatever code came in. Condition: the bytes of the code can be read. -/
import Derived.Test.YtlcmhcfnmohgmaaDrawnN
import Derived.Test.YtlcmhcfnmohgmaaPlanCut
import Derived.Test.YtlcmhcfnmohgmaaImplies
import Derived.Test.YtlcmhcfnmohgmaaSame
namespace Go.Proofs.Ytlcmhcfnmohgmaa
open Go.RowKit
set_option linter.unusedVariables false
set_option linter.unusedSimpArgs false
theorem sub_tab {bs bs' : List Bd} (h : ∀ b ∈ bs', b ∈ bs) (i j : Nat) : tab0 bs i j ≤ tab0 bs' i j :=
  le_tab0.2 ⟨(le_tab0.1 (Int.le_refl _)).1, fun b hb hf ht => (le_tab0.1 (Int.le_refl (tab0 bs i j))).2 b (h b hb) hf ht⟩
theorem cut_parts {p : Pl} {k : Int} (h : p.cutOk k = true) : p.ok = true ∧ (0 ≤ k ∧ k < p.bs.length) ∧ p.cut k = ⟨p.pts, p.bs.take k.toNat ++ p.bs.drop (k.toNat + 1)⟩ := by
  have e : p.cut k = ⟨p.pts, p.bs.take k.toNat ++ p.bs.drop (k.toNat + 1)⟩ := if_pos h
  simp only [Pl.cutOk, Bool.and_eq_true, inB_iff] at h
  exact ⟨h.1, by omega, e⟩
theorem cut_good {p : Pl} {k : Int} (h : p.cutOk k = true) : (p.cut k).ok = true ∧ (p.cut k).bs.length + 1 = p.bs.length ∧ (p.cut k).pts = p.pts ∧ (p.fits = true → (p.cut k).fits = true) ∧ p.implies (p.cut k) = true := by
  obtain ⟨h1, h2, h3⟩ := cut_parts h
  rw [h3]
  have hs : ∀ b ∈ p.bs.take k.toNat ++ p.bs.drop (k.toNat + 1), b ∈ p.bs := fun b hb => by
    rcases List.mem_append.1 hb with h | h
    · exact List.mem_of_mem_take h
    · exact List.mem_of_mem_drop h
  have hl : (p.bs.take k.toNat ++ p.bs.drop (k.toNat + 1)).length + 1 = p.bs.length := by rw [List.length_append, List.length_take, List.length_drop]; omega
  have ho : (⟨p.pts, p.bs.take k.toNat ++ p.bs.drop (k.toNat + 1)⟩ : Pl).ok = true := by
    simp only [Pl.ok, Bool.and_eq_true, decide_eq_true_eq, List.all_eq_true] at h1
    have h4 : (p.bs.take k.toNat ++ p.bs.drop (k.toNat + 1)).length ≤ 16 := by omega
    simp only [Pl.ok, Bool.and_eq_true, List.all_eq_true]
    exact ⟨h1.1, decide_eq_true h4, fun b hb => h1.2.2 b (hs b hb)⟩
  refine ⟨ho, hl, rfl, fun hf => fits_mk ho (fits_less (fun i j _ _ => sub_tab hs i j) (fits_ok hf).2), ?_⟩
  simp only [Pl.implies, h1, ho, Bool.true_and, decide_true]
  cases hf : p.fits
  · rfl
  · simp only [Bool.not_true, Bool.false_or]
    exact leB_iff.2 fun i hi j hj => Int.le_trans (upT_le _ _ _ _) (sub_tab hs i j)
set_option maxRecDepth 100000 in
set_option maxHeartbeats 8000000 in
theorem walk_WithoutBound (a : Option Addr) (n cap : Nat) (w : World) (h : Byt w w.heap.size a n cap) :
    Calls Try.prog 5 #[.slice a n cap] w fun e w' => e = .returned (.bool true) ∧ Below w.heap.size w w' := by
  have H := Lib.hid h
  obtain ⟨hncap, hcap, -⟩ := id h
  clear h
  by_cases hbig : 1048576 < n
  · go_enter Try.func5, Try.ntmps5
    go_wp2_with fail
    go_ret
    exact ⟨rfl, ext_refl _⟩
  go_enter Try.func5, Try.ntmps5
  go_wp2_with fail
  refine (spec_DrawWithoutBound a n cap w H.out).mono ?_
  rintro e w1 ⟨bs, p, at_, rfl, hV, hl, h0, h7, hb1⟩
  have E := hb1
  clear hb1
  obtain ⟨av, cv, rfl, -⟩ := hV.open
  have V := Lib.hid hV
  clear hV
  go_wp2_with fail
  obtain ⟨w2, hw2, A0, hs2, hb2⟩ := one_box w1 #[.int .i64 p.pts, .slice av p.bs.length cv] 25
  rw [← hw2.out]
  have V := Lib.hid (V.out.ext hb2)
  have E := ext_trans E hb2
  clear hb2
  obtain ⟨rcA0, rzA0⟩ := (A0).rules; have rlA0 := (A0).lt
  go_wp2_with fail
  obtain ⟨P, hP⟩ : ∃ P : Pl, Hid (P = p.cut at_) := ⟨_, rfl⟩
  obtain ⟨ok, hok⟩ : ∃ b : Bool, Hid (b = p.cutOk at_) := ⟨_, rfl⟩
  have hPl : P.bs.length ≤ 10 := by
    cases hc : p.cutOk at_
    · rw [hP.out, cut_no hc]; simp [Pl.zero]
    · rw [hP.out]; have := (cut_good hc).2.1; omega
  refine (impl_WithoutBound p at_ _ _ (V.out.base (Nat.zero_le _)) (by omega)).mono ?_
  rintro e w3 ⟨vX, rfl, hX, hb3⟩
  clear rcA0 rzA0 rlA0
  have A0 := A0.ext hb3
  have V := Lib.hid (V.out.ext hb3)
  have E := ext_trans E hb3
  clear hb3
  have X := Lib.hid hX
  clear hX
  rw [← hP.out] at X ⊢
  rw [← hok.out]
  obtain ⟨aX, cX, rfl, -⟩ := X.out.open
  obtain ⟨rcA0, rzA0⟩ := (A0).rules; have rlA0 := (A0).lt
  go_wp2_with fail
  obtain ⟨w4, hw4, A5, hs4, hb4⟩ := one_box w3 #[.int .i64 P.pts, .slice aX P.bs.length cX] 25
  rw [← hw4.out]
  clear rcA0 rzA0 rlA0
  have A0 := A0.ext hb4
  have V := Lib.hid (V.out.ext hb4)
  have X := Lib.hid (X.out.ext hb4)
  have E := ext_trans E hb4
  clear hb4
  obtain ⟨rcA0, rzA0⟩ := (A0).rules; have rlA0 := (A0).lt
  obtain ⟨rcA5, rzA5⟩ := (A5).rules; have rlA5 := (A5).lt
  go_wp2_with fail
  refine (spec_WithoutBound p at_ _ _ (V.out.base (Nat.zero_le _)) (by omega)).mono ?_
  rintro e w5 ⟨vY, rfl, hY, hb5⟩
  clear rcA0 rzA0 rlA0 rcA5 rzA5 rlA5
  have A0 := A0.ext hb5
  have A5 := A5.ext hb5
  have V := Lib.hid (V.out.ext hb5)
  have X := Lib.hid (X.out.ext hb5)
  have E := ext_trans E hb5
  clear hb5
  have Y := Lib.hid hY
  clear hY
  rw [← hP.out] at Y ⊢
  rw [← hok.out]
  obtain ⟨aY, cY, rfl, -⟩ := Y.out.open
  obtain ⟨rcA0, rzA0⟩ := (A0).rules; have rlA0 := (A0).lt
  obtain ⟨rcA5, rzA5⟩ := (A5).rules; have rlA5 := (A5).lt
  go_wp2_with fail
  obtain ⟨w6, hw6, A7, hs6, hb6⟩ := one_box w5 #[.int .i64 P.pts, .slice aY P.bs.length cY] 25
  rw [← hw6.out]
  clear rcA0 rzA0 rlA0 rcA5 rzA5 rlA5
  have A0 := A0.ext hb6
  have A5 := A5.ext hb6
  have V := Lib.hid (V.out.ext hb6)
  have X := Lib.hid (X.out.ext hb6)
  have Y := Lib.hid (Y.out.ext hb6)
  have E := ext_trans E hb6
  clear hb6
  obtain ⟨rcA0, rzA0⟩ := (A0).rules; have rlA0 := (A0).lt
  obtain ⟨rcA5, rzA5⟩ := (A5).rules; have rlA5 := (A5).lt
  obtain ⟨rcA7, rzA7⟩ := (A7).rules; have rlA7 := (A7).lt
  go_wp2_with fail
  refine (laws_samePlan P P _ _ _ (X.out.base (Nat.zero_le _)) (Y.out.base (Nat.zero_le _))).mono ?_
  rintro e w7 ⟨rfl, hb7⟩
  clear rcA0 rzA0 rlA0 rcA5 rzA5 rlA5 rcA7 rzA7 rlA7
  have A0 := A0.ext hb7
  have A5 := A5.ext hb7
  have A7 := A7.ext hb7
  have V := Lib.hid (V.out.ext hb7)
  have X := Lib.hid (X.out.ext hb7)
  have Y := Lib.hid (Y.out.ext hb7)
  have E := ext_trans E hb7
  clear hb7
  rw [decide_eq_true rfl]
  obtain ⟨rcA0, rzA0⟩ := (A0).rules; have rlA0 := (A0).lt
  obtain ⟨rcA5, rzA5⟩ := (A5).rules; have rlA5 := (A5).lt
  obtain ⟨rcA7, rzA7⟩ := (A7).rules; have rlA7 := (A7).lt
  cases hokc : ok
  · have HT := Lib.hid (show P = Pl.zero by rw [hP.out]; exact cut_no (by rw [← hok.out]; exact hokc))
    clear hokc
    go_wp2_with fail
    refine (laws_samePlan P Pl.zero _ (.slice none 0 0) _ (X.out.base (Nat.zero_le _)) (Bds.nil _ _)).mono ?_
    rintro e w8 ⟨rfl, hb8⟩
    clear rcA0 rzA0 rlA0 rcA5 rzA5 rlA5 rcA7 rzA7 rlA7
    have A0 := A0.ext hb8
    have A5 := A5.ext hb8
    have A7 := A7.ext hb8
    have V := Lib.hid (V.out.ext hb8)
    have X := Lib.hid (X.out.ext hb8)
    have Y := Lib.hid (Y.out.ext hb8)
    have E := ext_trans E hb8
    clear hb8
    rw [decide_eq_true HT.out]
    obtain ⟨rcA0, rzA0⟩ := (A0).rules; have rlA0 := (A0).lt
    obtain ⟨rcA5, rzA5⟩ := (A5).rules; have rlA5 := (A5).lt
    obtain ⟨rcA7, rzA7⟩ := (A7).rules; have rlA7 := (A7).lt
    go_wp2_with fail
    refine (laws_alive _).mono ?_
    rintro e w9 ⟨rfl, hb9⟩
    clear rcA0 rzA0 rlA0 rcA5 rzA5 rlA5 rcA7 rzA7 rlA7
    have A0 := A0.ext hb9
    have A5 := A5.ext hb9
    have A7 := A7.ext hb9
    have V := Lib.hid (V.out.ext hb9)
    have X := Lib.hid (X.out.ext hb9)
    have Y := Lib.hid (Y.out.ext hb9)
    have E := ext_trans E hb9
    clear hb9
    go_wp2_with fail
    go_ret
    exact ⟨rfl, E⟩
  · obtain ⟨f1, f2, f3, f4, f5⟩ := cut_good (show p.cutOk at_ = true by rw [← hok.out]; exact hokc)
    rw [← hP.out] at f1 f2 f3 f4 f5
    have F1 := Lib.hid f1; have F4 := Lib.hid f4; have F5 := Lib.hid f5
    have hlen : ((P.bs.length : Int) == (p.bs.length : Int) - 1) = true := by simp; omega
    clear hokc f1 f3 f4 f5
    have F2 := Lib.hid f2
    clear f2
    go_wp2_with fail
    refine (impl_PlanOk P _ _ (X.out.base (Nat.zero_le _))).mono ?_
    rintro e w8 ⟨rfl, hb8⟩
    clear rcA0 rzA0 rlA0 rcA5 rzA5 rlA5 rcA7 rzA7 rlA7
    have A0 := A0.ext hb8
    have A5 := A5.ext hb8
    have A7 := A7.ext hb8
    have V := Lib.hid (V.out.ext hb8)
    have X := Lib.hid (X.out.ext hb8)
    have Y := Lib.hid (Y.out.ext hb8)
    have E := ext_trans E hb8
    clear hb8
    rw [F1.out]
    obtain ⟨rcA0, rzA0⟩ := (A0).rules; have rlA0 := (A0).lt
    obtain ⟨rcA5, rzA5⟩ := (A5).rules; have rlA5 := (A5).lt
    obtain ⟨rcA7, rzA7⟩ := (A7).rules; have rlA7 := (A7).lt
    go_wp2_with fail
    refine (impl_FitsOk p _ _ (V.out.base (Nat.zero_le _))).mono ?_
    rintro e w9 ⟨rfl, hb9⟩
    clear rcA0 rzA0 rlA0 rcA5 rzA5 rlA5 rcA7 rzA7 rlA7
    have A0 := A0.ext hb9
    have A5 := A5.ext hb9
    have A7 := A7.ext hb9
    have V := Lib.hid (V.out.ext hb9)
    have X := Lib.hid (X.out.ext hb9)
    have Y := Lib.hid (Y.out.ext hb9)
    have E := ext_trans E hb9
    clear hb9
    obtain ⟨rcA0, rzA0⟩ := (A0).rules; have rlA0 := (A0).lt
    obtain ⟨rcA5, rzA5⟩ := (A5).rules; have rlA5 := (A5).lt
    obtain ⟨rcA7, rzA7⟩ := (A7).rules; have rlA7 := (A7).lt
    cases hfp : p.fits
    · clear hfp
      go_wp2_with fail
      refine (impl_ImpliesOk p P _ _ _ (V.out.base (Nat.zero_le _)) (X.out.base (Nat.zero_le _))).mono ?_
      rintro e w10 ⟨rfl, hb10⟩
      clear rcA0 rzA0 rlA0 rcA5 rzA5 rlA5 rcA7 rzA7 rlA7
      have A0 := A0.ext hb10
      have A5 := A5.ext hb10
      have A7 := A7.ext hb10
      have V := Lib.hid (V.out.ext hb10)
      have X := Lib.hid (X.out.ext hb10)
      have Y := Lib.hid (Y.out.ext hb10)
      have E := ext_trans E hb10
      clear hb10
      rw [F5.out]
      go_wp2_with fail
      go_ret
      exact ⟨rfl, E⟩
    · have hPf := F4.out hfp
      have HPf := Lib.hid hPf
      clear hPf hfp
      go_wp2_with fail
      refine (impl_FitsOk P _ _ (X.out.base (Nat.zero_le _))).mono ?_
      rintro e w10 ⟨rfl, hb10⟩
      clear rcA0 rzA0 rlA0 rcA5 rzA5 rlA5 rcA7 rzA7 rlA7
      have A0 := A0.ext hb10
      have A5 := A5.ext hb10
      have A7 := A7.ext hb10
      have V := Lib.hid (V.out.ext hb10)
      have X := Lib.hid (X.out.ext hb10)
      have Y := Lib.hid (Y.out.ext hb10)
      have E := ext_trans E hb10
      clear hb10
      rw [HPf.out]
      obtain ⟨rcA0, rzA0⟩ := (A0).rules; have rlA0 := (A0).lt
      obtain ⟨rcA5, rzA5⟩ := (A5).rules; have rlA5 := (A5).lt
      obtain ⟨rcA7, rzA7⟩ := (A7).rules; have rlA7 := (A7).lt
      go_wp2_with fail
      refine (impl_ImpliesOk p P _ _ _ (V.out.base (Nat.zero_le _)) (X.out.base (Nat.zero_le _))).mono ?_
      rintro e w11 ⟨rfl, hb11⟩
      clear rcA0 rzA0 rlA0 rcA5 rzA5 rlA5 rcA7 rzA7 rlA7
      have A0 := A0.ext hb11
      have A5 := A5.ext hb11
      have A7 := A7.ext hb11
      have V := Lib.hid (V.out.ext hb11)
      have X := Lib.hid (X.out.ext hb11)
      have Y := Lib.hid (Y.out.ext hb11)
      have E := ext_trans E hb11
      clear hb11
      rw [F5.out]
      go_wp2_with fail
      go_ret
      exact ⟨rfl, E⟩
end Go.Proofs.Ytlcmhcfnmohgmaa
