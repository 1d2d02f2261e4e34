/- The walk of FnTableOf: it returns true, whatever code came in. Condition: the bytes of the code can be read. -/
import Derived.Test.YtlcmhcfnmohgmaaDrawn
import Derived.Test.YtlcmhcfnmohgmaaPlanTurn
import Derived.Test.YtlcmhcfnmohgmaaClosed
import Derived.Test.YtlcmhcfnmohgmaaFitsS
import Derived.Test.YtlcmhcfnmohgmaaSameT
import Derived.Test.YtlcmhcfnmohgmaaSame
import Derived.Test.YtlcmhcfnmohgmaaLawTab
namespace Go.Proofs.Ytlcmhcfnmohgmaa
open Go.RowKit
set_option linter.unusedVariables false
set_option linter.unusedSimpArgs false
set_option maxRecDepth 100000 in
set_option maxHeartbeats 8000000 in
theorem walk_TableOf (a : Option Addr) (n cap : Nat) (w : World) (h : Byt w w.heap.size a n cap) :
    Calls Try.prog 3 #[.slice a n cap] w fun e w' => e = .returned (.bool true) ∧ Below w.heap.size w w' := by
  have H := Lib.hid h
  obtain ⟨hncap, hcap, -⟩ := id h
  clear h
  by_cases hbig : 1048576 < n
  · go_enter Try.func3, Try.ntmps3
    go_wp2_with fail
    go_ret
    exact ⟨rfl, ext_refl _⟩
  go_enter Try.func3, Try.ntmps3
  go_wp2_with fail
  refine (spec_DrawTableOf a n cap w H.out).mono ?_
  rintro e w1 ⟨bs, p, rfl, hV, hl, h0, h7, hb1⟩
  have E := hb1
  clear hb1
  obtain ⟨av, cv, rfl, -⟩ := hV.open
  have V := Lib.hid hV
  clear hV
  go_wp2_with fail
  obtain ⟨w2, hw2, A0, hs2, hb2⟩ := one_box w1 #[.int .i64 p.pts, .slice av p.bs.length cv] 25
  rw [← hw2.out]
  have V := Lib.hid (V.out.ext hb2)
  have E := ext_trans E hb2
  clear hb2
  obtain ⟨rcA0, rzA0⟩ := (A0).rules; have rlA0 := (A0).lt
  cases hok : p.ok
  · have Hok := Lib.hid hok
    clear hok
    go_wp2_with fail
    refine (impl_TableOf_no p _ _ (V.out.base (Nat.zero_le _)) Hok.out).mono ?_
    rintro e w3 ⟨vX, hsX, rfl, hX, hb3⟩
    clear rcA0 rzA0 rlA0
    have A0 := A0.ext hb3
    have V := Lib.hid (V.out.ext hb3)
    have E := ext_trans E hb3
    clear hb3
    obtain ⟨aX, cX, rfl, -⟩ := hX.open
    have X := Lib.hid hX
    clear hX
    obtain ⟨rcA0, rzA0⟩ := (A0).rules; have rlA0 := (A0).lt
    go_wp2_with fail
    refine (spec_TableOf_no p _ _ (V.out.base (Nat.zero_le _)) Hok.out).mono ?_
    rintro e w4 ⟨vY, hsY, rfl, hY, hb4⟩
    clear rcA0 rzA0 rlA0
    have A0 := A0.ext hb4
    have V := Lib.hid (V.out.ext hb4)
    have X := Lib.hid (X.out.ext hb4)
    have E := ext_trans E hb4
    clear hb4
    obtain ⟨aY, cY, rfl, -⟩ := hY.open
    have Y := Lib.hid hY
    clear hY
    obtain ⟨rcA0, rzA0⟩ := (A0).rules; have rlA0 := (A0).lt
    go_wp2_with fail
    refine (laws_sameTable p.n 0 _ _ hsX hsY p.tab _ (X.out.base (Nat.zero_le _)) (Y.out.base (Nat.zero_le _))).mono ?_
    rintro e w5 ⟨rfl, hb5⟩
    clear rcA0 rzA0 rlA0
    have A0 := A0.ext hb5
    have V := Lib.hid (V.out.ext hb5)
    have X := Lib.hid (X.out.ext hb5)
    have Y := Lib.hid (Y.out.ext hb5)
    have E := ext_trans E hb5
    clear hb5
    obtain ⟨rcA0, rzA0⟩ := (A0).rules; have rlA0 := (A0).lt
    go_wp2_with fail
    refine (impl_PlanOk p _ _ (V.out.base (Nat.zero_le _))).mono ?_
    rintro e w6 ⟨rfl, hb6⟩
    clear rcA0 rzA0 rlA0
    have A0 := A0.ext hb6
    have V := Lib.hid (V.out.ext hb6)
    have X := Lib.hid (X.out.ext hb6)
    have Y := Lib.hid (Y.out.ext hb6)
    have E := ext_trans E hb6
    clear hb6
    rw [Hok.out]
    obtain ⟨rcA0, rzA0⟩ := (A0).rules; have rlA0 := (A0).lt
    go_wp2_with fail
    refine (laws_alive _).mono ?_
    rintro e w7 ⟨rfl, hb7⟩
    clear rcA0 rzA0 rlA0
    have A0 := A0.ext hb7
    have V := Lib.hid (V.out.ext hb7)
    have X := Lib.hid (X.out.ext hb7)
    have Y := Lib.hid (Y.out.ext hb7)
    have E := ext_trans E hb7
    clear hb7
    go_wp2_with fail
    go_ret
    exact ⟨rfl, E⟩
  · have Hok := Lib.hid hok
    obtain ⟨N, hN⟩ : ∃ N, Hid (N = p.n) := ⟨_, rfl⟩
    obtain ⟨q1, q2, q3, q4, q5⟩ := plok_in hok
    rw [← hN.out] at q2 q3
    have he0 : ((N : Int) == 0) = false := beq_false_of_ne (by omega)
    obtain ⟨D, hD⟩ : ∃ D, Hid (D = p.tab) := ⟨_, rfl⟩
    have hin : Hid (∀ i j, D i j ≤ 100000) := by rw [hD.out]; exact fun i j => tab0_le p.bs i j
    have hdg : Hid (∀ i, D i i ≤ 0) := by rw [hD.out]; exact fun i => tab0_diag p.bs i
    clear hok q1 q4 q5
    go_wp2_with fail
    refine ((show Calls Try.prog 12 _ _ (fun e w' => ∃ v hs, e = .returned v ∧ TabG w' _ N N v hs D ∧ Below _ _ w') by rw [hN.out, hD.out]; exact impl_TableOf_yes p _ _ (V.out.base (Nat.zero_le _)) Hok.out)).mono ?_
    rintro e w3 ⟨vX, hsX, rfl, hX, hb3⟩
    clear rcA0 rzA0 rlA0
    have A0 := A0.ext hb3
    have V := Lib.hid (V.out.ext hb3)
    have E := ext_trans E hb3
    clear hb3
    obtain ⟨aX, cX, rfl, -⟩ := hX.open
    have X := Lib.hid hX
    clear hX
    obtain ⟨rcA0, rzA0⟩ := (A0).rules; have rlA0 := (A0).lt
    go_wp2_with fail
    refine ((show Calls Try.prog 14 _ _ (fun e w' => ∃ v hs, e = .returned v ∧ TabG w' _ N N v hs D ∧ Below _ _ w') by rw [hN.out, hD.out]; exact spec_TableOf_yes p _ _ (V.out.base (Nat.zero_le _)) Hok.out)).mono ?_
    rintro e w4 ⟨vY, hsY, rfl, hY, hb4⟩
    clear rcA0 rzA0 rlA0
    have A0 := A0.ext hb4
    have V := Lib.hid (V.out.ext hb4)
    have X := Lib.hid (X.out.ext hb4)
    have E := ext_trans E hb4
    clear hb4
    obtain ⟨aY, cY, rfl, -⟩ := hY.open
    have Y := Lib.hid hY
    clear hY
    obtain ⟨rcA0, rzA0⟩ := (A0).rules; have rlA0 := (A0).lt
    go_wp2_with fail
    refine (laws_sameTable N N _ _ hsX hsY D _ (X.out.base (Nat.zero_le _)) (Y.out.base (Nat.zero_le _))).mono ?_
    rintro e w5 ⟨rfl, hb5⟩
    clear rcA0 rzA0 rlA0
    have A0 := A0.ext hb5
    have V := Lib.hid (V.out.ext hb5)
    have X := Lib.hid (X.out.ext hb5)
    have Y := Lib.hid (Y.out.ext hb5)
    have E := ext_trans E hb5
    clear hb5
    obtain ⟨rcA0, rzA0⟩ := (A0).rules; have rlA0 := (A0).lt
    go_wp2_with fail
    obtain ⟨T, hT⟩ : ∃ T : Pl, Hid (T = p.turned) := ⟨_, rfl⟩
    refine (impl_TurnedPlan p _ _ (V.out.base (Nat.zero_le _)) (by omega)).mono ?_
    rintro e w6 ⟨xs, rfl, hQ, hb6⟩
    clear rcA0 rzA0 rlA0
    have A0 := A0.ext hb6
    have V := Lib.hid (V.out.ext hb6)
    have X := Lib.hid (X.out.ext hb6)
    have Y := Lib.hid (Y.out.ext hb6)
    have E := ext_trans E hb6
    clear hb6
    obtain ⟨aQ, cQ, rfl, -⟩ := hQ.open
    have Q := Lib.hid hQ
    clear hQ
    rw [← hT.out] at Q ⊢
    obtain ⟨rcA0, rzA0⟩ := (A0).rules; have rlA0 := (A0).lt
    go_wp2_with fail
    refine ((show Calls Try.prog 12 _ _ (fun e w' => ∃ v hs, e = .returned v ∧ TabG w' _ N N v hs (fun a b => D b a) ∧ Below _ _ w') by
      refine (impl_TableOf_yes T _ _ (Q.out.base (Nat.zero_le _)) (by rw [hT.out]; exact turn_ok p Hok.out)).mono ?_
      rintro e w' ⟨v, hs, h1, h2, h3⟩
      rw [show T.n = N by rw [hT.out, turned_n Hok.out, hN.out]] at h2
      exact ⟨v, hs, h1, h2.congr (fun i j _ _ => by rw [hT.out, hD.out]; exact turned_tab Hok.out i j), h3⟩)).mono ?_
    rintro e w7 ⟨vZ, hsZ, rfl, hZ, hb7⟩
    clear rcA0 rzA0 rlA0
    have A0 := A0.ext hb7
    have V := Lib.hid (V.out.ext hb7)
    have X := Lib.hid (X.out.ext hb7)
    have Y := Lib.hid (Y.out.ext hb7)
    have Q := Lib.hid (Q.out.ext hb7)
    have E := ext_trans E hb7
    clear hb7
    obtain ⟨aZ, cZ, rfl, -⟩ := hZ.open
    have Z := Lib.hid hZ
    clear hZ
    obtain ⟨rcA0, rzA0⟩ := (A0).rules; have rlA0 := (A0).lt
    go_wp2_with fail
    go_loopg [6, 7] N (fun m ii jj wr => ∃ i : Nat, i ≤ N ∧ m = N - i ∧ ii = .int .i64 i ∧ Below w7.heap.size w7 wr)
    case atStart => exact ⟨0, by omega, by omega, rfl, ext_refl _⟩
    case round =>
      clear rcA0 rzA0 rlA0
      obtain ⟨i, hi, hgk, rfl, hb⟩ := hrel
      have Hi := Lib.hid hgk
      clear hgk
      by_cases hli : i < N
      · go_wp2_with fail
        rename World => wr
        go_loopg [7] N (fun m jj wx => ∃ j : Nat, j ≤ N ∧ m = N - j ∧ jj = .int .i64 j ∧ Below w7.heap.size w7 wx)
        case atStart => exact ⟨0, by omega, by omega, rfl, hb⟩
        case round =>
          rename World => wx
          clear hb
          obtain ⟨j, hj, hgk, rfl, hb⟩ := hrel
          have Hj := Lib.hid hgk
          clear hgk
          by_cases hlj : j < N
          · obtain ⟨gz, az, cz, hag, _, hgz, _, hOz, hcz, hcz2, hrz⟩ := (Z.out.ext hb).head hlj
            subst hag
            obtain ⟨gx, ax, cx, hag, _, hgx, _, hOx, hcx, hcx2, hrx⟩ := (X.out.ext hb).head hli
            subst hag
            have hl1 : (rowOf N (fun a => D a j)).length = N := rowOf_length _ _
            have hl2 : (rowOf N (D i)).length = N := rowOf_length _ _
            obtain ⟨g1, ha1, _, hg1, _, k1⟩ := hrz.at_ (j := i) (by show i < (rowOf N (fun a => D a j)).length; omega)
            subst ha1
            obtain ⟨g2, ha2, _, hg2, _, k2⟩ := hrx.at_ (j := j) (by omega)
            subst ha2
            obtain ⟨_, ha2, _, _, _, k3⟩ := hrx.at_ (j := i) (by omega)
            cases ha2
            rw [rowOf_getD _ _ _ hli] at k1 k3
            rw [rowOf_getD _ _ _ hlj] at k2
            have b1 := hin.out i j
            have b2 := hdg.out i
            obtain ⟨x, Hx⟩ : ∃ x, Hid (x = D i j) := ⟨_, rfl⟩
            obtain ⟨z, Hz⟩ : ∃ x, Hid (x = D i i) := ⟨_, rfl⟩
            rw [← Hx.out] at k1 k2 b1
            rw [← Hz.out] at k3 b2
            have hd1 : decide (100000 < x) = false := decide_eq_false (by omega)
            have hd2 : decide (0 < z) = false := decide_eq_false (by omega)
            clear hl1 hl2 hrz hrx
            go_wp2_with fail
            go_quiet (fail)
            go_wp2_with fail
            go_roundg (N - (j+1))
            case rel => exact ⟨j+1, by omega, rfl, by go_num, ext_trans hb (ext_drewN' _ _)⟩
            case measure => have := Hj.out; omega
          · have hjn : N = j := by omega
            subst hjn
            go_wp2_with fail
            go_roundg (N - (i+1))
            case rel => exact ⟨i+1, by omega, rfl, by go_num, hb⟩
            case measure => have := Hi.out; omega
      · have hin2 : N = i := by omega
        subst hin2
        go_wp2_with fail
        go_ret
        exact ⟨rfl, ext_trans E hb⟩
end Go.Proofs.Ytlcmhcfnmohgmaa
