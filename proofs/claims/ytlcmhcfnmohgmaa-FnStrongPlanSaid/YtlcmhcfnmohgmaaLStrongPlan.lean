/- The walk of FnStrongPlan: it returns true, whatever code came in. Condition: the bytes of the code can be read. -/
import Derived.Test.YtlcmhcfnmohgmaaDeal
import Derived.Test.YtlcmhcfnmohgmaaStrongS
import Derived.Test.YtlcmhcfnmohgmaaSame
namespace Go.Proofs.Ytlcmhcfnmohgmaa
open Go.RowKit
set_option linter.unusedVariables false
set_option linter.unusedSimpArgs false
theorem strong_clear {p : Pl} {l : List Pr} (h : dealOk p l = true) (o : Bd) {j : Nat} (hj : j < l.length) : (strI l o).f = (strI l o).t ∨ ((strI l o).f ≠ (l.getD j Pr.z).t ∧ (strI l o).t ≠ (l.getD j Pr.z).t) := by
  obtain ⟨h1, h2, h3, h4⟩ := deal_use h
  unfold strI
  split
  · rename_i e; exact .inl e
  · rename_i hft
    refine .inr ?_
    match l, h3, h4, j, hj with
    | [x], _, h4, 0, _ =>
      have hx := (h4 0 (by simp)).1
      simp [prOk] at hx
      have hx1 : ¬ x.f = x.t := hx.2.2.1
      simp only [curI, List.length_singleton, List.take_succ_cons, List.take_zero, List.foldl_cons, List.foldl_nil, stepI]
      unfold stepF stepT
      by_cases e1 : o.t = x.t <;> by_cases e2 : o.f = x.t <;> simp_all
    | [x, y], _, h4, j, hj =>
      have hx := (h4 0 (by simp)).1
      have hy := (h4 1 (by simp)).1
      have f1 := (h4 0 (by simp)).2 1 (by simp)
      have f2 := (h4 1 (by simp)).2 0 (by simp)
      simp [prOk] at hx hy
      simp [prFar] at f1 f2
      have hx1 : ¬ x.f = x.t := hx.2.2.1
      have hy1 : ¬ y.f = y.t := hy.2.2.1
      have g1 : ¬ x.t = y.f := f1.1
      have g1' : ¬ y.f = x.t := fun e => g1 e.symm
      have g2 : ¬ x.t = y.t := f1.2
      have g3 : ¬ y.t = x.f := f2.1
      have g3' : ¬ x.f = y.t := fun e => g3 e.symm
      have g2' : ¬ y.t = x.t := fun e => g2 e.symm
      clear h h1 h2 hx hy f1 f2 h4
      simp only [curI, List.length_cons, List.length_nil, List.take_succ_cons, List.take_zero, List.foldl_cons, List.foldl_nil, stepI]
      unfold stepF stepT
      have hj2 : j = 0 ∨ j = 1 := by simp at hj; omega
      rcases hj2 with rfl | rfl <;> by_cases e1 : o.t = x.t <;> by_cases e2 : o.f = x.t <;> by_cases e3 : o.t = y.t <;> by_cases e4 : o.f = y.t <;> simp_all
theorem strong_len (p : Pl) (l : List Pr) : (strongOf p l).bs.length = p.bs.length := by simp [strongOf]
theorem strong_at {p : Pl} {l : List Pr} {k : Nat} (hk : k < p.bs.length) : (strongOf p l).bs.getD k Bd.z = strI l (p.bs.getD k Bd.z) := by
  simp [strongOf, List.getD_eq_getElem?_getD, hk]
theorem strong_none (p : Pl) : strongOf p [] = p := by
  have : p.bs.map (strI []) = p.bs := by
    have e : strI [] = id := by funext b; simp [strI, curI]
    rw [e, List.map_id]
  unfold strongOf; rw [this]
set_option maxRecDepth 100000 in
set_option maxHeartbeats 8000000 in
theorem walk_StrongPlan (a : Option Addr) (n cap : Nat) (w : World) (h : Byt w w.heap.size a n cap) :
    Calls Try.prog 7 #[.slice a n cap] w fun e w' => e = .returned (.bool true) ∧ Below w.heap.size w w' := by
  have H := Lib.hid h
  obtain ⟨hncap, hcap, -⟩ := id h
  clear h
  by_cases hbig : 1048576 < n
  · go_enter Try.func7, Try.ntmps7
    go_wp2_with fail
    go_ret
    exact ⟨rfl, ext_refl _⟩
  go_enter Try.func7, Try.ntmps7
  go_wp2_with fail
  refine (spec_DrawStrongPlan a n cap w H.out).mono ?_
  rintro e w1 ⟨v1, v2, p, l, rfl, hV, hU, hl6, hl3, h0, h7, hb1⟩
  have E := hb1
  clear hb1
  obtain ⟨a1, c1, rfl, -⟩ := hV.open
  have V := Lib.hid hV
  clear hV
  obtain ⟨a2, c2, rfl, -⟩ := hU.open
  have U := Lib.hid hU
  clear hU
  go_upto_region 4 with fail
  obtain ⟨nb, hnb⟩ : ∃ nb, Hid (nb = p.bs.length) := ⟨_, rfl⟩
  obtain ⟨nl, hnl⟩ : ∃ nl, Hid (nl = l.length) := ⟨_, rfl⟩
  obtain ⟨w2, hw2, A0, hs2, hb2⟩ := one_box w1 #[.int .i64 p.pts, .slice a1 p.bs.length c1, .slice a2 l.length c2] 44
  rw [← hw2.out]
  have V := Lib.hid (V.out.ext hb2)
  have U := Lib.hid (U.out.ext hb2)
  have E := ext_trans E hb2
  clear hb2
  obtain ⟨rcA0, rzA0⟩ := (A0).rules; have rlA0 := (A0).lt
  go_wp2_with fail
  obtain ⟨P, hP⟩ : ∃ P : Pl, Hid (P = dealStrong p l) := ⟨_, rfl⟩
  obtain ⟨ok, hok⟩ : ∃ b : Bool, Hid (b = (dealOk p l && (strongOf p l).ok)) := ⟨_, rfl⟩
  refine (impl_StrongPlan p _ _ l _ (V.out.base (Nat.zero_le _)) (U.out.base (Nat.zero_le _)) (by omega) (by omega)).mono ?_
  rintro e w3 ⟨vX, rfl, hX, hb3⟩
  clear rcA0 rzA0 rlA0
  have A0 := A0.ext hb3
  have V := Lib.hid (V.out.ext hb3)
  have U := Lib.hid (U.out.ext hb3)
  have E := ext_trans E hb3
  clear hb3
  rw [← hP.out] at hX ⊢
  rw [← hok.out]
  obtain ⟨aX, cX, rfl, -⟩ := hX.open
  have X := Lib.hid hX
  clear hX
  go_upto_region 5 with fail
  obtain ⟨w4, hw4, A4, hs4, hb4⟩ := one_box w3 #[.int .i64 P.pts, .slice aX P.bs.length cX] 25
  rw [← hw4.out]
  have A0 := A0.ext hb4
  have V := Lib.hid (V.out.ext hb4)
  have U := Lib.hid (U.out.ext hb4)
  have X := Lib.hid (X.out.ext hb4)
  have E := ext_trans E hb4
  clear hb4
  obtain ⟨rcA0, rzA0⟩ := (A0).rules; have rlA0 := (A0).lt
  obtain ⟨rcA4, rzA4⟩ := (A4).rules; have rlA4 := (A4).lt
  go_wp2_with fail
  refine (spec_StrongPlan p _ _ l _ (V.out.base (Nat.zero_le _)) (U.out.base (Nat.zero_le _)) (by omega) (by omega)).mono ?_
  rintro e w5 ⟨vY, rfl, hY, hb5⟩
  clear rcA0 rzA0 rlA0 rcA4 rzA4 rlA4
  have A0 := A0.ext hb5
  have A4 := A4.ext hb5
  have V := Lib.hid (V.out.ext hb5)
  have U := Lib.hid (U.out.ext hb5)
  have X := Lib.hid (X.out.ext hb5)
  have E := ext_trans E hb5
  clear hb5
  rw [← hP.out] at hY ⊢
  rw [← hok.out]
  obtain ⟨aY, cY, rfl, -⟩ := hY.open
  have Y := Lib.hid hY
  clear hY
  go_upto_region 6 with fail
  obtain ⟨w6, hw6, A6, hs6, hb6⟩ := one_box w5 #[.int .i64 P.pts, .slice aY P.bs.length cY] 25
  rw [← hw6.out]
  have A0 := A0.ext hb6
  have A4 := A4.ext hb6
  have V := Lib.hid (V.out.ext hb6)
  have U := Lib.hid (U.out.ext hb6)
  have X := Lib.hid (X.out.ext hb6)
  have Y := Lib.hid (Y.out.ext hb6)
  have E := ext_trans E hb6
  clear hb6
  obtain ⟨rcA0, rzA0⟩ := (A0).rules; have rlA0 := (A0).lt
  obtain ⟨rcA4, rzA4⟩ := (A4).rules; have rlA4 := (A4).lt
  obtain ⟨rcA6, rzA6⟩ := (A6).rules; have rlA6 := (A6).lt
  have hoo : (ok != ok) = false := by simp
  go_wp2_with fail
  refine (laws_samePlan P P _ _ _ (X.out.base (Nat.zero_le _)) (Y.out.base (Nat.zero_le _))).mono ?_
  rintro e w7 ⟨rfl, hb7⟩
  clear rcA0 rzA0 rlA0 rcA4 rzA4 rlA4 rcA6 rzA6 rlA6
  have A0 := A0.ext hb7
  have A4 := A4.ext hb7
  have A6 := A6.ext hb7
  have V := Lib.hid (V.out.ext hb7)
  have U := Lib.hid (U.out.ext hb7)
  have X := Lib.hid (X.out.ext hb7)
  have Y := Lib.hid (Y.out.ext hb7)
  have E := ext_trans E hb7
  clear hb7
  rw [decide_eq_true rfl]
  obtain ⟨rcA0, rzA0⟩ := (A0).rules; have rlA0 := (A0).lt
  obtain ⟨rcA4, rzA4⟩ := (A4).rules; have rlA4 := (A4).lt
  obtain ⟨rcA6, rzA6⟩ := (A6).rules; have rlA6 := (A6).lt
  cases hokc : ok
  · have HT := Lib.hid (show P = Pl.zero by rw [hP.out]; exact if_neg (by rw [← hok.out, hokc]; simp))
    clear hokc hoo
    go_wp2_with fail
    refine (laws_samePlan P Pl.zero _ (.slice none 0 0) _ (X.out.base (Nat.zero_le _)) (Bds.nil _ _)).mono ?_
    rintro e w8 ⟨rfl, hb8⟩
    clear rcA0 rzA0 rlA0 rcA4 rzA4 rlA4 rcA6 rzA6 rlA6
    have A0 := A0.ext hb8
    have A4 := A4.ext hb8
    have A6 := A6.ext hb8
    have V := Lib.hid (V.out.ext hb8)
    have U := Lib.hid (U.out.ext hb8)
    have X := Lib.hid (X.out.ext hb8)
    have Y := Lib.hid (Y.out.ext hb8)
    have E := ext_trans E hb8
    clear hb8
    rw [decide_eq_true HT.out]
    obtain ⟨rcA0, rzA0⟩ := (A0).rules; have rlA0 := (A0).lt
    obtain ⟨rcA4, rzA4⟩ := (A4).rules; have rlA4 := (A4).lt
    obtain ⟨rcA6, rzA6⟩ := (A6).rules; have rlA6 := (A6).lt
    go_wp2_with fail
    refine (laws_alive _).mono ?_
    rintro e w9 ⟨rfl, hb9⟩
    clear rcA0 rzA0 rlA0 rcA4 rzA4 rlA4 rcA6 rzA6 rlA6
    have A0 := A0.ext hb9
    have A4 := A4.ext hb9
    have A6 := A6.ext hb9
    have V := Lib.hid (V.out.ext hb9)
    have U := Lib.hid (U.out.ext hb9)
    have X := Lib.hid (X.out.ext hb9)
    have Y := Lib.hid (Y.out.ext hb9)
    have E := ext_trans E hb9
    clear hb9
    go_wp2_with fail
    go_ret
    exact ⟨rfl, E⟩
  · have hoc : (dealOk p l && (strongOf p l).ok) = true := by rw [← hok.out]; exact hokc
    have HP := Lib.hid (show P = strongOf p l by rw [hP.out]; exact if_pos hoc)
    rw [Bool.and_eq_true] at hoc
    have Hd := Lib.hid hoc.1
    have hlen : Hid (P.bs.length = nb) := by rw [HP.out, strong_len, hnb.out]; exact Lib.hid rfl
    clear hokc hoc hoo
    clear rcA0 rzA0 rlA0 rcA4 rzA4 rlA4 rcA6 rzA6 rlA6
    rw [hlen.out] at A4 A6 ⊢
    rw [← hnb.out, ← hnl.out] at A0
    rw [← hnb.out] at hl6
    rw [← hnl.out] at hl3
    obtain ⟨rcA0, rzA0⟩ := (A0).rules; have rlA0 := (A0).lt
    obtain ⟨rcA4, rzA4⟩ := (A4).rules; have rlA4 := (A4).lt
    obtain ⟨rcA6, rzA6⟩ := (A6).rules; have rlA6 := (A6).lt
    go_wp2_with fail
    clear rcA0 rzA0 rlA0 rcA4 rzA4 rlA4 rcA6 rzA6 rlA6
    go_loopg [8] nb (fun m kk wr => ∃ k : Nat, k ≤ nb ∧ m = nb - k ∧ kk = .int .i64 k ∧ Below w7.heap.size w7 wr)
    case atStart => exact ⟨0, by omega, by omega, rfl, ext_refl _⟩
    case round =>
      obtain ⟨k, hk, hgk, rfl, hb⟩ := hrel
      have Hk := Lib.hid hgk
      clear hgk
      have A0 := A0.ext hb
      have A4 := A4.ext hb
      have A6 := A6.ext hb
      have V := Lib.hid (V.out.ext hb)
      have U := Lib.hid (U.out.ext hb)
      have X := Lib.hid (X.out.ext hb)
      have Y := Lib.hid (Y.out.ext hb)
      have E := ext_trans E hb
      obtain ⟨rcA0, rzA0⟩ := (A0).rules; have rlA0 := (A0).lt
      obtain ⟨rcA4, rzA4⟩ := (A4).rules; have rlA4 := (A4).lt
      obtain ⟨rcA6, rzA6⟩ := (A6).rules; have rlA6 := (A6).lt
      by_cases hlk : k < nb
      · skip
        go_wp2_with fail
        clear rcA0 rzA0 rlA0 rcA4 rzA4 rlA4 rcA6 rzA6 rlA6
        go_loopg [9] nl (fun m jj wx => ∃ j : Nat, j ≤ nl ∧ m = nl - j ∧ jj = .int .i64 j ∧ Below wr.heap.size wr wx)
        case atStart => exact ⟨0, by omega, by omega, rfl, ext_refl _⟩
        case round =>
          rename World => wx
          obtain ⟨j, hj, hgk, rfl, hbx⟩ := hrel
          have Hj := Lib.hid hgk
          clear hgk
          have A0 := A0.ext hbx
          have A4 := A4.ext hbx
          have A6 := A6.ext hbx
          have U := Lib.hid (U.out.ext hbx)
          have Y := Lib.hid (Y.out.ext hbx)
          obtain ⟨rcA0, rzA0⟩ := (A0).rules; have rlA0 := (A0).lt
          obtain ⟨rcA4, rzA4⟩ := (A4).rules; have rlA4 := (A4).lt
          obtain ⟨rcA6, rzA6⟩ := (A6).rules; have rlA6 := (A6).lt
          by_cases hlj : j < nl
          · obtain ⟨gy, hay, -, hgy, -, cf, ct, -⟩ := Y.out.at_ (j := k) (by rw [hlen.out]; exact hlk)
            subst hay
            rw [hlen.out] at Y
            obtain ⟨gu, hau, -, hgu, -, -, cp, -⟩ := U.out.at_ (j := j) (by rw [← hnl.out]; exact hlj)
            subst hau
            obtain ⟨f, hf⟩ : ∃ f, Hid (f = (P.bs.getD k Bd.z).f) := ⟨_, rfl⟩
            obtain ⟨t, ht⟩ : ∃ t, Hid (t = (P.bs.getD k Bd.z).t) := ⟨_, rfl⟩
            obtain ⟨q, hq⟩ : ∃ q, Hid (q = (l.getD j Pr.z).t) := ⟨_, rfl⟩
            rw [← hf.out] at cf
            rw [← ht.out] at ct
            rw [← hq.out] at cp
            have hcl : f = t ∨ (f ≠ q ∧ t ≠ q) := by
              rw [hf.out, ht.out, hq.out, HP.out, strong_at (by rw [← hnb.out]; exact hlk)]
              exact strong_clear Hd.out _ (by rw [← hnl.out]; exact hlj)
            by_cases hft : f = t
            · have hb1 : (f != t) = false := by simp [hft]
              clear hft hcl
              go_wp2_with fail
              go_quiet (fail)
              go_wp2_with fail
              go_roundg (nl - (j+1))
              case rel => exact ⟨j+1, by omega, rfl, by go_num, ext_trans hbx ⟨rfl, rfl, rfl, Nat.le_refl _, fun _ _ => rfl⟩⟩
              case measure => have := Hj.out; omega
            · have hb1 : (f != t) = true := by simp [hft]
              have hcq : f ≠ q ∧ t ≠ q := by omega
              have hb2 : (f == q) = false := beq_false_of_ne hcq.1
              have hb3 : (t == q) = false := beq_false_of_ne hcq.2
              clear hcq
              clear hft hcl
              go_wp2_with fail
              go_quiet (fail)
              go_wp2_with fail
              go_roundg (nl - (j+1))
              case rel => exact ⟨j+1, by omega, rfl, by go_num, ext_trans hbx ⟨rfl, rfl, rfl, Nat.le_refl _, fun _ _ => rfl⟩⟩
              case measure => have := Hj.out; omega
          · have hjn : nl = j := by omega
            subst hjn
            go_wp2_with fail
            go_roundg (nb - (k+1))
            case rel => exact ⟨k+1, by omega, rfl, by go_num, ext_trans hb hbx⟩
            case measure => have := Hk.out; omega
      · have hkn : nb = k := by omega
        subst hkn
        have hee : ((nb : Int) == (nb : Int)) = true := by simp
        by_cases hl0 : 0 < nl
        · have hl0i : (0 : Int) < (nl : Int) := by omega
          go_wp2_with fail
          go_ret
          exact ⟨rfl, E⟩
        · have hl0i : ¬ (0 : Int) < (nl : Int) := by omega
          have hls : l = [] := List.eq_nil_of_length_eq_zero (by rw [← hnl.out]; omega)
          have Hpp : Hid (P = p) := by rw [HP.out, hls, strong_none]; exact Lib.hid rfl
          clear hls hl0
          go_wp2_with fail
          refine (laws_samePlan P p _ _ _ (show Bds _ 0 (.slice aY nb cY) P.bs by rw [← hlen.out]; exact Y.out.base (Nat.zero_le _)) (show Bds _ 0 (.slice a1 nb c1) p.bs by rw [hnb.out]; exact V.out.base (Nat.zero_le _))).mono ?_
          rintro e w8 ⟨rfl, hb8⟩
          clear rcA0 rzA0 rlA0 rcA4 rzA4 rlA4 rcA6 rzA6 rlA6
          have A0 := A0.ext hb8
          have A4 := A4.ext hb8
          have A6 := A6.ext hb8
          have V := Lib.hid (V.out.ext hb8)
          have U := Lib.hid (U.out.ext hb8)
          have X := Lib.hid (X.out.ext hb8)
          have Y := Lib.hid (Y.out.ext hb8)
          have E := ext_trans E hb8
          clear hb8
          rw [decide_eq_true Hpp.out]
          go_wp2_with fail
          go_ret
          exact ⟨rfl, E⟩
end Go.Proofs.Ytlcmhcfnmohgmaa
