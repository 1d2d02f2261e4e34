/- The walk of FnBothPlans: it returns true, whatever codes came in. Condition: the bytes of the codes can be read. -/
import Derived.Test.YtlcmhcfnmohgmaaDrawBoth
import Derived.Test.YtlcmhcfnmohgmaaPlanOut
import Derived.Test.YtlcmhcfnmohgmaaBothMath
import Derived.Test.YtlcmhcfnmohgmaaSame
import Derived.Test.YtlcmhcfnmohgmaaLawInts
import Derived.Test.YtlcmhcfnmohgmaaLFitsOk
namespace Go.Proofs.Ytlcmhcfnmohgmaa
open Go.RowKit
set_option linter.unusedVariables false
set_option linter.unusedSimpArgs false
set_option maxRecDepth 100000 in
set_option maxHeartbeats 8000000 in
theorem walk_BothPlans (a : Option Addr) (n cap : Nat) (a2 : Option Addr) (n2 cap2 : Nat) (w : World) (h : Byt w w.heap.size a n cap) (h2 : Byt w w.heap.size a2 n2 cap2) :
    Calls Try.prog 10 #[.slice a n cap, .slice a2 n2 cap2] w fun e w' => e = .returned (.bool true) ∧ Below w.heap.size w w' := by
  have H := Lib.hid h
  obtain ⟨hncap, hcap, -⟩ := id h
  clear h
  have H2 := Lib.hid h2
  obtain ⟨hncap2, hcap2, -⟩ := id h2
  clear h2
  by_cases hbig : 1048576 < n
  · go_enter Try.func10, Try.ntmps10
    go_wp2_with fail
    go_ret
    exact ⟨rfl, ext_refl _⟩
  by_cases hbig2 : 1048576 < n2
  · go_enter Try.func10, Try.ntmps10
    go_wp2_with fail
    go_ret
    exact ⟨rfl, ext_refl _⟩
  go_enter Try.func10, Try.ntmps10
  go_wp2_with fail
  refine (spec_DrawBothPlans a n cap w H.out).mono ?_
  rintro e w1 ⟨bs, bs', p, q, rfl, hV, hQ, hl, hl', h0, h7, h0', h7', hb1⟩
  have E := hb1
  clear hb1
  obtain ⟨av, cv, rfl, -⟩ := hV.open
  have V := Lib.hid hV
  clear hV
  obtain ⟨bv, dv, rfl, -⟩ := hQ.open
  have Q := Lib.hid hQ
  clear hQ
  go_upto_region 4 with fail
  obtain ⟨w2, hw2, A0, B0, hs2, hb2⟩ := two_boxes w1 #[.int .i64 p.pts, .slice av p.bs.length cv] #[.int .i64 q.pts, .slice bv q.bs.length dv] 25 25
  rw [← hw2.out]
  have V := Lib.hid (V.out.ext hb2)
  have Q := Lib.hid (Q.out.ext hb2)
  have E := ext_trans E hb2
  clear hb2
  obtain ⟨rcA0, rzA0⟩ := (A0).rules; have rlA0 := (A0).lt
  obtain ⟨rcB0, rzB0⟩ := (B0).rules; have rlB0 := (B0).lt
  go_wp2_with fail
  obtain ⟨P, hP⟩ : ∃ P : Pl, Hid (P = p.both q) := ⟨_, rfl⟩
  obtain ⟨ok, hok⟩ : ∃ b : Bool, Hid (b = p.bothOk q) := ⟨_, rfl⟩
  have hPl : P.bs.length ≤ 20 := by rw [hP.out]; have := both_len p q; omega
  refine (impl_BothPlans p q _ _ _ (V.out.base (Nat.zero_le _)) (Q.out.base (Nat.zero_le _)) (by omega)).mono ?_
  rintro e w3 ⟨vX, rfl, hX, hb3⟩
  clear rcA0 rzA0 rlA0 rcB0 rzB0 rlB0
  have A0 := A0.ext hb3
  have B0 := B0.ext hb3
  have V := Lib.hid (V.out.ext hb3)
  have Q := Lib.hid (Q.out.ext hb3)
  have E := ext_trans E hb3
  clear hb3
  have X := Lib.hid hX
  clear hX
  rw [← hP.out] at X ⊢
  rw [← hok.out]
  obtain ⟨aX, cX, rfl, -⟩ := X.out.open
  obtain ⟨rcA0, rzA0⟩ := (A0).rules; have rlA0 := (A0).lt
  obtain ⟨rcB0, rzB0⟩ := (B0).rules; have rlB0 := (B0).lt
  go_wp2_with fail
  obtain ⟨w4, hw4, A7, hs4, hb4⟩ := one_box w3 #[.int .i64 P.pts, .slice aX P.bs.length cX] 25
  rw [← hw4.out]
  clear rcA0 rzA0 rlA0 rcB0 rzB0 rlB0
  have A0 := A0.ext hb4
  have B0 := B0.ext hb4
  have V := Lib.hid (V.out.ext hb4)
  have Q := Lib.hid (Q.out.ext hb4)
  have X := Lib.hid (X.out.ext hb4)
  have E := ext_trans E hb4
  clear hb4
  obtain ⟨rcA0, rzA0⟩ := (A0).rules; have rlA0 := (A0).lt
  obtain ⟨rcB0, rzB0⟩ := (B0).rules; have rlB0 := (B0).lt
  obtain ⟨rcA7, rzA7⟩ := (A7).rules; have rlA7 := (A7).lt
  go_wp2_with fail
  refine (spec_BothPlans p q _ _ _ (V.out.base (Nat.zero_le _)) (Q.out.base (Nat.zero_le _)) (by omega)).mono ?_
  rintro e w5 ⟨vY, rfl, hY, hb5⟩
  clear rcA0 rzA0 rlA0 rcB0 rzB0 rlB0 rcA7 rzA7 rlA7
  have A0 := A0.ext hb5
  have B0 := B0.ext hb5
  have A7 := A7.ext hb5
  have V := Lib.hid (V.out.ext hb5)
  have Q := Lib.hid (Q.out.ext hb5)
  have X := Lib.hid (X.out.ext hb5)
  have E := ext_trans E hb5
  clear hb5
  have Y := Lib.hid hY
  clear hY
  rw [← hP.out] at Y ⊢
  rw [← hok.out]
  obtain ⟨aY, cY, rfl, -⟩ := Y.out.open
  obtain ⟨rcA0, rzA0⟩ := (A0).rules; have rlA0 := (A0).lt
  obtain ⟨rcB0, rzB0⟩ := (B0).rules; have rlB0 := (B0).lt
  obtain ⟨rcA7, rzA7⟩ := (A7).rules; have rlA7 := (A7).lt
  go_wp2_with fail
  obtain ⟨w6, hw6, A9, hs6, hb6⟩ := one_box w5 #[.int .i64 P.pts, .slice aY P.bs.length cY] 25
  rw [← hw6.out]
  clear rcA0 rzA0 rlA0 rcB0 rzB0 rlB0 rcA7 rzA7 rlA7
  have A0 := A0.ext hb6
  have B0 := B0.ext hb6
  have A7 := A7.ext hb6
  have V := Lib.hid (V.out.ext hb6)
  have Q := Lib.hid (Q.out.ext hb6)
  have X := Lib.hid (X.out.ext hb6)
  have Y := Lib.hid (Y.out.ext hb6)
  have E := ext_trans E hb6
  clear hb6
  obtain ⟨rcA0, rzA0⟩ := (A0).rules; have rlA0 := (A0).lt
  obtain ⟨rcB0, rzB0⟩ := (B0).rules; have rlB0 := (B0).lt
  obtain ⟨rcA7, rzA7⟩ := (A7).rules; have rlA7 := (A7).lt
  obtain ⟨rcA9, rzA9⟩ := (A9).rules; have rlA9 := (A9).lt
  go_wp2_with fail
  refine (laws_samePlan P P _ _ _ (X.out.base (Nat.zero_le _)) (Y.out.base (Nat.zero_le _))).mono ?_
  rintro e w7 ⟨rfl, hb7⟩
  clear rcA0 rzA0 rlA0 rcB0 rzB0 rlB0 rcA7 rzA7 rlA7 rcA9 rzA9 rlA9
  have A0 := A0.ext hb7
  have B0 := B0.ext hb7
  have A7 := A7.ext hb7
  have A9 := A9.ext hb7
  have V := Lib.hid (V.out.ext hb7)
  have Q := Lib.hid (Q.out.ext hb7)
  have X := Lib.hid (X.out.ext hb7)
  have Y := Lib.hid (Y.out.ext hb7)
  have E := ext_trans E hb7
  clear hb7
  rw [decide_eq_true rfl]
  obtain ⟨rcA0, rzA0⟩ := (A0).rules; have rlA0 := (A0).lt
  obtain ⟨rcB0, rzB0⟩ := (B0).rules; have rlB0 := (B0).lt
  obtain ⟨rcA7, rzA7⟩ := (A7).rules; have rlA7 := (A7).lt
  obtain ⟨rcA9, rzA9⟩ := (A9).rules; have rlA9 := (A9).lt
  cases hokc : ok
  · have HT := Lib.hid (show P = Pl.zero by rw [hP.out]; exact both_no (by rw [← hok.out]; exact hokc))
    clear hokc
    go_wp2_with fail
    refine (laws_samePlan P Pl.zero _ (.slice none 0 0) _ (X.out.base (Nat.zero_le _)) (Bds.nil _ _)).mono ?_
    rintro e w8 ⟨rfl, hb8⟩
    clear rcA0 rzA0 rlA0 rcB0 rzB0 rlB0 rcA7 rzA7 rlA7 rcA9 rzA9 rlA9
    have A0 := A0.ext hb8
    have B0 := B0.ext hb8
    have A7 := A7.ext hb8
    have A9 := A9.ext hb8
    have V := Lib.hid (V.out.ext hb8)
    have Q := Lib.hid (Q.out.ext hb8)
    have X := Lib.hid (X.out.ext hb8)
    have Y := Lib.hid (Y.out.ext hb8)
    have E := ext_trans E hb8
    clear hb8
    rw [decide_eq_true HT.out]
    obtain ⟨rcA0, rzA0⟩ := (A0).rules; have rlA0 := (A0).lt
    obtain ⟨rcB0, rzB0⟩ := (B0).rules; have rlB0 := (B0).lt
    obtain ⟨rcA7, rzA7⟩ := (A7).rules; have rlA7 := (A7).lt
    obtain ⟨rcA9, rzA9⟩ := (A9).rules; have rlA9 := (A9).lt
    go_wp2_with fail
    refine (laws_alive _).mono ?_
    rintro e w9 ⟨rfl, hb9⟩
    clear rcA0 rzA0 rlA0 rcB0 rzB0 rlB0 rcA7 rzA7 rlA7 rcA9 rzA9 rlA9
    have A0 := A0.ext hb9
    have B0 := B0.ext hb9
    have A7 := A7.ext hb9
    have A9 := A9.ext hb9
    have V := Lib.hid (V.out.ext hb9)
    have Q := Lib.hid (Q.out.ext hb9)
    have X := Lib.hid (X.out.ext hb9)
    have Y := Lib.hid (Y.out.ext hb9)
    have E := ext_trans E hb9
    clear hb9
    go_wp2_with fail
    go_ret
    exact ⟨rfl, E⟩
  · have Hok : Hid (p.bothOk q = true) := by rw [← hok.out]; exact Lib.hid hokc
    clear hokc
    have hpn := plok_in (both_parts Hok.out).1
    obtain ⟨N, hN⟩ : ∃ N, Hid (N = p.n) := ⟨_, rfl⟩
    have hpts : Hid (p.pts = (N : Int)) := by rw [hN.out]; exact Lib.hid hpn.1
    have hN1 : 1 ≤ N ∧ N ≤ 6 := by rw [hN.out]; exact ⟨hpn.2.1, hpn.2.2.1⟩
    clear hpn
    go_wp2_with fail
    clear rcA0 rzA0 rlA0 rcB0 rzB0 rlB0 rcA7 rzA7 rlA7 rcA9 rzA9 rlA9
    obtain ⟨wM, hwM, TB, hsM, hbM⟩ := one_box w7 #[] 3
    rw [← hwM.out]
    have M := Lib.hid (Ints.ofBox TB (Nat.le_refl _))
    clear TB
    rw [hpts.out] at A0
    go_loopg [11, 12] N (fun m vo kk wr => ∃ (k : Nat) (tl : List Int), k ≤ N ∧ m = N - k ∧ kk = .int .i64 k ∧ tl.length = k ∧ Hid (Ints wr w7.heap.size vo tl) ∧ Below w7.heap.size w7 wr)
    case atStart => exact ⟨0, [], by omega, by omega, rfl, rfl, M, hbM⟩
    case round =>
      obtain ⟨k, tl, hk, hgk, rfl, htl, R, hb⟩ := hrel
      have Hk := Lib.hid hgk
      clear hgk
      obtain ⟨ao, co, rfl, -⟩ := R.out.open
      rw [htl] at R ⊢
      have Htl := Lib.hid htl
      clear htl
      have A1 := A0.ext hb
      obtain ⟨rc1, rz1⟩ := (A1).rules; have rl1 := (A1).lt
      have qE := E.size
      by_cases hlk : k < N
      · by_cases h20 : n2 ≤ 0
        · have hz20 : decide (0 < n2) = false := decide_eq_false (by omega)
          go_wp2_with (at_builtin; refine wpl_appI _ rfl (.tmp 77) (.tmp 79) rfl w7.heap.size 0 (.slice ao k co) tl rfl (R.out.alloc _) (.slice (some ⟨wr.heap.size, 0, none⟩) 1 1) [0] rfl ((Ints.lit wr _).base (Nat.zero_le _)) (by rw [Htl.out]; simp; omega) (by have := hb.size; simp; omega) ?_; intro v9 w9 hv9 hg9)
          have hq9 := hb.size
          skip
          go_roundg (N - (k+1))
          case rel => exact ⟨k+1, tl ++ [0], by omega, rfl, by go_num, by rw [List.length_append, Htl.out]; rfl, Lib.hid hv9, ext_grown (ext_alloc hb _) hg9 (fun q hq => (R.out.lt q hq).1)⟩
          case measure => have := Hk.out; omega
        · obtain ⟨q, hq⟩ : ∃ q, Hid (q = k % n2) := ⟨_, rfl⟩
          have hqn : q < n2 := by rw [hq.out]; exact Nat.mod_lt _ (by omega)
          have hqm : ((k : Int) % (n2 : Int)) = (q : Int) := by rw [hq.out]; rfl
          have hqt : (k : Int).tmod (n2 : Int) = (q : Int) := by rw [Int.tmod_eq_emod_of_nonneg (by omega)]; exact hqm
          obtain ⟨bq, oq, zq, hag, hbq, czq, hz1, hz2⟩ := (H2.out.below (ext_trans E hb)).2.2 q hqn
          have hn20 : 0 < n2 := by omega
          clear h20
          subst hag
          have hbqw : bq < wr.heap.size := by have := hb.size; omega
          have hne : ((n2 : Int) == 0) = false := beq_false_of_ne (by omega)
          go_wp2_with (at_builtin; refine wpl_appI _ rfl (.tmp 77) (.tmp 79) rfl w7.heap.size 0 (.slice ao k co) tl rfl (R.out.alloc _) (.slice (some ⟨wr.heap.size, 0, none⟩) 1 1) [(zq % 30)] rfl ((Ints.lit wr _).base (Nat.zero_le _)) (by rw [Htl.out]; simp; omega) (by have := hb.size; simp; omega) ?_; intro v9 w9 hv9 hg9)
          have hq9 := hb.size
          skip
          go_roundg (N - (k+1))
          case rel => exact ⟨k+1, tl ++ [(zq % 30)], by omega, rfl, by go_num, by rw [List.length_append, Htl.out]; rfl, Lib.hid hv9, ext_grown (ext_alloc hb _) hg9 (fun q hq => (R.out.lt q hq).1)⟩
          case measure => have := Hk.out; omega
      · have hkN : k = N := by omega
        subst hkN
        clear rc1 rz1 rl1 A1
        have A0 := A0.ext hb
        have B0 := B0.ext hb
        have A7 := A7.ext hb
        have A9 := A9.ext hb
        have V := Lib.hid (V.out.ext hb)
        have Q := Lib.hid (Q.out.ext hb)
        have X := Lib.hid (X.out.ext hb)
        have Y := Lib.hid (Y.out.ext hb)
        have E := ext_trans E hb
        clear hb A9
        have q0 := E.size
        obtain ⟨K1, hK1⟩ : ∃ b, Hid (b = keeps p tl) := ⟨_, rfl⟩
        obtain ⟨K2, hK2⟩ : ∃ b, Hid (b = keeps q tl) := ⟨_, rfl⟩
        have hK : Hid (keeps P tl = (K1 && K2)) := by rw [hP.out, hK1.out, hK2.out]; exact both_keeps Hok.out tl
        obtain ⟨S, hS⟩ : ∃ P : Pl, Hid (P = q.both p) := ⟨_, rfl⟩
        have hSl : S.bs.length ≤ 20 := by rw [hS.out]; have := both_len q p; omega
        have I1 : Hid (P.implies p = true) := by rw [hP.out]; exact Lib.hid (both_good Hok.out).1
        have I2 : Hid (P.implies q = true) := by rw [hP.out]; exact Lib.hid (both_good Hok.out).2.1
        have I3 : Hid (S.alike P = true) := by rw [hP.out, hS.out]; exact Lib.hid (both_good Hok.out).2.2
        have I4 : Hid (q.bothOk p = true) := Lib.hid (both_swap Hok.out)
        obtain ⟨rcA0, rzA0⟩ := (A0).rules; have rlA0 := (A0).lt
        obtain ⟨rcB0, rzB0⟩ := (B0).rules; have rlB0 := (B0).lt
        obtain ⟨rcA7, rzA7⟩ := (A7).rules; have rlA7 := (A7).lt
        go_wp2_with fail
        refine ((show Calls Try.prog 43 #[.agg #[.int .i64 q.pts, .slice bv q.bs.length dv], .agg #[.int .i64 k, .slice av p.bs.length cv]] wr (RetPlanB wr (q.both p) (q.bothOk p)) by rw [← hpts.out]; exact impl_BothPlans q p _ _ _ (Q.out.base (Nat.zero_le _)) (V.out.base (Nat.zero_le _)) (by omega))).mono ?_
        rintro e w8 ⟨vZ, rfl, hZ, hb8⟩
        clear rcA0 rzA0 rlA0 rcB0 rzB0 rlB0 rcA7 rzA7 rlA7
        have A0 := A0.ext hb8
        have B0 := B0.ext hb8
        have A7 := A7.ext hb8
        have V := Lib.hid (V.out.ext hb8)
        have Q := Lib.hid (Q.out.ext hb8)
        have X := Lib.hid (X.out.ext hb8)
        have R := Lib.hid (R.out.ext hb8)
        have E := ext_trans E hb8
        clear hb8
        have Z := Lib.hid hZ
        clear hZ
        rw [← hS.out] at Z ⊢
        rw [I4.out]
        obtain ⟨aZ, cZ, rfl, -⟩ := Z.out.open
        obtain ⟨rcA0, rzA0⟩ := (A0).rules; have rlA0 := (A0).lt
        obtain ⟨rcB0, rzB0⟩ := (B0).rules; have rlB0 := (B0).lt
        obtain ⟨rcA7, rzA7⟩ := (A7).rules; have rlA7 := (A7).lt
        go_upto_region 19 with fail
        obtain ⟨w9, hw9, A14, hs9, hb9⟩ := one_box w8 #[.int .i64 S.pts, .slice aZ S.bs.length cZ] 25
        rw [← hw9.out]
        clear rcA0 rzA0 rlA0 rcB0 rzB0 rlB0 rcA7 rzA7 rlA7
        have A0 := A0.ext hb9
        have B0 := B0.ext hb9
        have A7 := A7.ext hb9
        have V := Lib.hid (V.out.ext hb9)
        have Q := Lib.hid (Q.out.ext hb9)
        have X := Lib.hid (X.out.ext hb9)
        have R := Lib.hid (R.out.ext hb9)
        have Z := Lib.hid (Z.out.ext hb9)
        have E := ext_trans E hb9
        clear hb9
        obtain ⟨W1, hW1⟩ : ∃ x, x = w9.heap.size := ⟨_, rfl⟩
        have hkeep : Hid (∀ wx, Below w9.heap.size w9 wx → (fun w' => w'.cell? ⟨w1.heap.size, 0, none⟩ = some (Value.int .i64 k) ∧ w'.cell? ⟨w1.heap.size, 1, none⟩ = some (Value.slice av p.bs.length cv) ∧ w'.cell? ⟨w1.heap.size + 1, 0, none⟩ = some (Value.int .i64 q.pts) ∧ w'.cell? ⟨w1.heap.size + 1, 1, none⟩ = some (Value.slice bv q.bs.length dv) ∧ w'.cell? ⟨w3.heap.size, 0, none⟩ = some (Value.int .i64 P.pts) ∧ w'.cell? ⟨w3.heap.size, 1, none⟩ = some (Value.slice aX P.bs.length cX) ∧ w'.cell? ⟨w8.heap.size, 0, none⟩ = some (Value.int .i64 S.pts) ∧ w'.cell? ⟨w8.heap.size, 1, none⟩ = some (Value.slice aZ S.bs.length cZ)) wx) := fun wx hx => ⟨(A0.ext hx).cell0 rfl, (A0.ext hx).cell0 rfl, (B0.ext hx).cell0 rfl, (B0.ext hx).cell0 rfl, (A7.ext hx).cell0 rfl, (A7.ext hx).cell0 rfl, (A14.ext hx).cell0 rfl, (A14.ext hx).cell0 rfl⟩
        refine wp_region_held_drew (S := (fun w' => w'.cell? ⟨w1.heap.size, 0, none⟩ = some (Value.int .i64 k) ∧ w'.cell? ⟨w1.heap.size, 1, none⟩ = some (Value.slice av p.bs.length cv) ∧ w'.cell? ⟨w1.heap.size + 1, 0, none⟩ = some (Value.int .i64 q.pts) ∧ w'.cell? ⟨w1.heap.size + 1, 1, none⟩ = some (Value.slice bv q.bs.length dv) ∧ w'.cell? ⟨w3.heap.size, 0, none⟩ = some (Value.int .i64 P.pts) ∧ w'.cell? ⟨w3.heap.size, 1, none⟩ = some (Value.slice aX P.bs.length cX) ∧ w'.cell? ⟨w8.heap.size, 0, none⟩ = some (Value.int .i64 S.pts) ∧ w'.cell? ⟨w8.heap.size, 1, none⟩ = some (Value.slice aZ S.bs.length cZ))) (by kernel_rfl) ?_ (fun hHeld => ?_)
        · exact hkeep.out _ (ext_drew (ext_refl _))
        obtain ⟨d, hd⟩ : ∃ d, Hid (d = w9.drew) := ⟨_, rfl⟩
        have hx : Below w9.heap.size w9 d := by rw [hd.out]; exact ext_drew (ext_refl _)
        rw [← hd.out] at hHeld ⊢
        clear A0 B0 A7 A14
        try simp only [Act.put, List.setIfInBounds_toArray, List.set_cons_zero, List.set_cons_succ]
        have HKK := hK
        clear hK
        refine wpAnyH_take (i := 0) (v := ?_) rfl (by kernel_rfl) (by kernel_rfl) (by kernel_rfl) (fun _ _ _ h => h) (Or.inl ⟨by rfl, fun w' hS' => ?_⟩) (by assumption) ?_
        rotate_left
        · (try dsimp only at hS'); go_simp; (try rw [if_pos (by omega)]); try with_reducible rfl
        try simp only [Act.put, List.getElem_toArray, List.getElem_cons_zero, List.getElem_cons_succ, List.setIfInBounds_toArray, List.set_cons_zero, List.set_cons_succ]
        refine wpAnyH_take (i := 1) (v := ?_) rfl (by kernel_rfl) (by kernel_rfl) (by kernel_rfl) (fun _ _ _ h => h) (Or.inl ⟨by rfl, fun w' hS' => ?_⟩) (by assumption) ?_
        rotate_left
        · (try dsimp only at hS'); go_simp; (try rw [if_pos (by omega)]); try with_reducible rfl
        try simp only [Act.put, List.getElem_toArray, List.getElem_cons_zero, List.getElem_cons_succ, List.setIfInBounds_toArray, List.set_cons_zero, List.set_cons_succ]
        refine wpAnyH_ready (rs := [2]) (by kernel_rfl) (by simp) ?_
        refine AllReadyH.cons rfl (fun K' hK => ?_) AllReadyH.nil
        refine if_yes (by rfl) ?_
        try simp only [Act.put, List.getElem_toArray, List.getElem_cons_zero, List.getElem_cons_succ, List.setIfInBounds_toArray, List.set_cons_zero, List.set_cons_succ]
        go_simp
        refine ((show Calls Try.prog 26 #[.agg #[.int .i64 P.pts, .slice aX P.bs.length cX], .agg #[.int .i64 k, .slice av p.bs.length cv]] d (fun e w' => e = .returned (.bool (P.implies p)) ∧ Below d.heap.size d w') by rw [← hpts.out]; exact impl_ImpliesOk P p _ _ d ((X.out.ext hx).base (Nat.zero_le _)) ((V.out.ext hx).base (Nat.zero_le _)))).mono ?_
        rintro e u1 ⟨rfl, hbu1⟩
        have hx := ext_trans hx hbu1
        rw [I1.out]
        go_wp2_with fail
        refine hK.out _ _ ?_ (fun hHeld => ?_)
        · exact hkeep.out _ hx
        clear hK K'
        try simp only [Act.put, List.setIfInBounds_toArray, List.set_cons_zero, List.set_cons_succ]
        refine wpAnyH_take (i := 3) (v := ?_) rfl (by kernel_rfl) (by kernel_rfl) (by kernel_rfl) (fun _ _ _ h => h) (Or.inl ⟨by rfl, fun w' hS' => ?_⟩) (by assumption) ?_
        rotate_left
        · (try dsimp only at hS'); go_simp; (try rw [if_pos (by omega)]); try with_reducible rfl
        try simp only [Act.put, List.getElem_toArray, List.getElem_cons_zero, List.getElem_cons_succ, List.setIfInBounds_toArray, List.set_cons_zero, List.set_cons_succ]
        refine wpAnyH_take (i := 4) (v := ?_) rfl (by kernel_rfl) (by kernel_rfl) (by kernel_rfl) (fun _ _ _ h => h) (Or.inl ⟨by rfl, fun w' hS' => ?_⟩) (by assumption) ?_
        rotate_left
        · (try dsimp only at hS'); go_simp; (try rw [if_pos (by omega)]); try with_reducible rfl
        try simp only [Act.put, List.getElem_toArray, List.getElem_cons_zero, List.getElem_cons_succ, List.setIfInBounds_toArray, List.set_cons_zero, List.set_cons_succ]
        refine wpAnyH_take (i := 5) (v := ?_) rfl (by kernel_rfl) (by kernel_rfl) (by kernel_rfl) (fun _ _ _ h => h) (Or.inl ⟨by rfl, fun w' hS' => ?_⟩) (by assumption) ?_
        rotate_left
        · (try dsimp only at hS'); go_simp; (try rw [if_pos (by omega)]); try with_reducible rfl
        try simp only [Act.put, List.getElem_toArray, List.getElem_cons_zero, List.getElem_cons_succ, List.setIfInBounds_toArray, List.set_cons_zero, List.set_cons_succ]
        refine wpAnyH_ready (rs := [6]) (by kernel_rfl) (by simp) ?_
        refine AllReadyH.cons rfl (fun K' hK => ?_) AllReadyH.nil
        refine if_yes (by rfl) ?_
        try simp only [Act.put, List.getElem_toArray, List.getElem_cons_zero, List.getElem_cons_succ, List.setIfInBounds_toArray, List.set_cons_zero, List.set_cons_succ]
        go_simp
        refine (impl_ImpliesOk P q _ _ _ ((X.out.ext hx).base (Nat.zero_le _)) ((Q.out.ext hx).base (Nat.zero_le _))).mono ?_
        rintro e u2 ⟨rfl, hbu2⟩
        have hx := ext_trans hx hbu2
        rw [I2.out]
        go_wp2_with fail
        refine hK.out _ _ ?_ (fun hHeld => ?_)
        · exact hkeep.out _ hx
        clear hK K'
        try simp only [Act.put, List.setIfInBounds_toArray, List.set_cons_zero, List.set_cons_succ]
        refine wpAnyH_take (i := 7) (v := ?_) rfl (by kernel_rfl) (by kernel_rfl) (by kernel_rfl) (fun _ _ _ h => h) (Or.inl ⟨by rfl, fun w' hS' => ?_⟩) (by assumption) ?_
        rotate_left
        · (try dsimp only at hS'); go_simp; (try rw [if_pos (by omega)]); try with_reducible rfl
        try simp only [Act.put, List.getElem_toArray, List.getElem_cons_zero, List.getElem_cons_succ, List.setIfInBounds_toArray, List.set_cons_zero, List.set_cons_succ]
        refine wpAnyH_take (i := 8) (v := ?_) rfl (by kernel_rfl) (by kernel_rfl) (by kernel_rfl) (fun _ _ _ h => h) (Or.inl ⟨by rfl, fun w' hS' => ?_⟩) (by assumption) ?_
        rotate_left
        · (try dsimp only at hS'); go_simp; (try rw [if_pos (by omega)]); try with_reducible rfl
        try simp only [Act.put, List.getElem_toArray, List.getElem_cons_zero, List.getElem_cons_succ, List.setIfInBounds_toArray, List.set_cons_zero, List.set_cons_succ]
        refine wpAnyH_take (i := 9) (v := ?_) rfl (by kernel_rfl) (by kernel_rfl) (by kernel_rfl) (fun _ _ _ h => h) (Or.inl ⟨by rfl, fun w' hS' => ?_⟩) (by assumption) ?_
        rotate_left
        · (try dsimp only at hS'); go_simp; (try rw [if_pos (by omega)]); try with_reducible rfl
        try simp only [Act.put, List.getElem_toArray, List.getElem_cons_zero, List.getElem_cons_succ, List.setIfInBounds_toArray, List.set_cons_zero, List.set_cons_succ]
        refine wpAnyH_take (i := 10) (v := ?_) rfl (by kernel_rfl) (by kernel_rfl) (by kernel_rfl) (fun _ _ _ h => h) (Or.inl ⟨by rfl, fun w' hS' => ?_⟩) (by assumption) ?_
        rotate_left
        · (try dsimp only at hS'); go_simp; (try rw [if_pos (by omega)]); try with_reducible rfl
        try simp only [Act.put, List.getElem_toArray, List.getElem_cons_zero, List.getElem_cons_succ, List.setIfInBounds_toArray, List.set_cons_zero, List.set_cons_succ]
        refine wpAnyH_take (i := 12) (v := ?_) rfl (by kernel_rfl) (by kernel_rfl) (by kernel_rfl) (fun _ _ _ h => h) (Or.inl ⟨by rfl, fun w' hS' => ?_⟩) (by assumption) ?_
        rotate_left
        · (try dsimp only at hS'); go_simp; (try rw [if_pos (by omega)]); try with_reducible rfl
        try simp only [Act.put, List.getElem_toArray, List.getElem_cons_zero, List.getElem_cons_succ, List.setIfInBounds_toArray, List.set_cons_zero, List.set_cons_succ]
        refine wpAnyH_take (i := 13) (v := ?_) rfl (by kernel_rfl) (by kernel_rfl) (by kernel_rfl) (fun _ _ _ h => h) (Or.inl ⟨by rfl, fun w' hS' => ?_⟩) (by assumption) ?_
        rotate_left
        · (try dsimp only at hS'); go_simp; (try rw [if_pos (by omega)]); try with_reducible rfl
        try simp only [Act.put, List.getElem_toArray, List.getElem_cons_zero, List.getElem_cons_succ, List.setIfInBounds_toArray, List.set_cons_zero, List.set_cons_succ]
        refine wpAnyH_ready (rs := [11]) (by kernel_rfl) (by simp) ?_
        refine AllReadyH.cons rfl (fun K' hK => ?_) AllReadyH.nil
        refine if_yes (by rfl) ?_
        try simp only [Act.put, List.getElem_toArray, List.getElem_cons_zero, List.getElem_cons_succ, List.setIfInBounds_toArray, List.set_cons_zero, List.set_cons_succ]
        go_simp
        refine (impl_KeepsOk P _ _ tl _ ((X.out.ext hx).base (Nat.zero_le _)) ((R.out.ext hx).base (Nat.zero_le _))).mono ?_
        rintro e u3 ⟨rfl, hbu3⟩
        have hx := ext_trans hx hbu3
        rw [HKK.out]
        clear HKK
        go_wp2_with fail
        refine hK.out _ _ ?_ (fun hHeld => ?_)
        · exact hkeep.out _ hx
        clear hK K'
        try simp only [Act.put, List.setIfInBounds_toArray, List.set_cons_zero, List.set_cons_succ]
        refine wpAnyH_ready (rs := [14]) (by kernel_rfl) (by simp) ?_
        refine AllReadyH.cons rfl (fun K' hK => ?_) AllReadyH.nil
        refine if_yes (by rfl) ?_
        try simp only [Act.put, List.getElem_toArray, List.getElem_cons_zero, List.getElem_cons_succ, List.setIfInBounds_toArray, List.set_cons_zero, List.set_cons_succ]
        go_simp
        refine ((show Calls Try.prog 30 #[.agg #[.int .i64 k, .slice av p.bs.length cv], .slice ao k co] u3 (fun e w' => e = .returned (.bool (keeps p tl)) ∧ Below u3.heap.size u3 w') by rw [← hpts.out]; exact impl_KeepsOk p _ _ tl u3 ((V.out.ext hx).base (Nat.zero_le _)) ((R.out.ext hx).base (Nat.zero_le _)))).mono ?_
        rintro e u4 ⟨rfl, hbu4⟩
        have hx := ext_trans hx hbu4
        rw [← hK1.out]
        go_wp2_with fail
        refine hK.out _ _ ?_ (fun hHeld => ?_)
        · exact hkeep.out _ hx
        clear hK K'
        try simp only [Act.put, List.setIfInBounds_toArray, List.set_cons_zero, List.set_cons_succ]
        cases hK1c : K1
        · clear hK1c
          skip
          refine wpAnyH_take (i := 15) (v := ?_) rfl (by kernel_rfl) (by kernel_rfl) (by kernel_rfl) (fun _ _ _ h => h) (Or.inl ⟨by rfl, fun w' hS' => ?_⟩) (by assumption) ?_
          rotate_left
          · (try dsimp only at hS'); go_simp; (try rw [if_pos (by omega)]); try with_reducible rfl
          try simp only [Act.put, List.getElem_toArray, List.getElem_cons_zero, List.getElem_cons_succ, List.setIfInBounds_toArray, List.set_cons_zero, List.set_cons_succ]
          refine wpAnyH_take (i := 16) (v := undef) rfl (by kernel_rfl) (by kernel_rfl) (by kernel_rfl) (fun _ _ _ h => h) (Or.inr ⟨by rfl, rfl⟩) (by assumption) ?_
          try simp only [Act.put, List.getElem_toArray, List.getElem_cons_zero, List.getElem_cons_succ, List.setIfInBounds_toArray, List.set_cons_zero, List.set_cons_succ]
          refine wpAnyH_take (i := 17) (v := undef) rfl (by kernel_rfl) (by kernel_rfl) (by kernel_rfl) (fun _ _ _ h => h) (Or.inr ⟨by rfl, rfl⟩) (by assumption) ?_
          try simp only [Act.put, List.getElem_toArray, List.getElem_cons_zero, List.getElem_cons_succ, List.setIfInBounds_toArray, List.set_cons_zero, List.set_cons_succ]
          refine wpAnyH_take (i := 18) (v := undef) rfl (by kernel_rfl) (by kernel_rfl) (by kernel_rfl) (fun _ _ _ h => h) (Or.inr ⟨by rfl, rfl⟩) (by assumption) ?_
          try simp only [Act.put, List.getElem_toArray, List.getElem_cons_zero, List.getElem_cons_succ, List.setIfInBounds_toArray, List.set_cons_zero, List.set_cons_succ]
          refine wpAnyH_take (i := 19) (v := ?_) rfl (by kernel_rfl) (by kernel_rfl) (by kernel_rfl) (fun _ _ _ h => h) (Or.inl ⟨by rfl, fun w' hS' => ?_⟩) (by assumption) ?_
          rotate_left
          · (try dsimp only at hS'); go_simp; (try rw [if_pos (by omega)]); try with_reducible rfl
          try simp only [Act.put, List.getElem_toArray, List.getElem_cons_zero, List.getElem_cons_succ, List.setIfInBounds_toArray, List.set_cons_zero, List.set_cons_succ]
          refine wpAnyH_take (i := 20) (v := ?_) rfl (by kernel_rfl) (by kernel_rfl) (by kernel_rfl) (fun _ _ _ h => h) (Or.inl ⟨by rfl, fun w' hS' => ?_⟩) (by assumption) ?_
          rotate_left
          · (try dsimp only at hS'); go_simp; (try rw [if_pos (by omega)]); try with_reducible rfl
          try simp only [Act.put, List.getElem_toArray, List.getElem_cons_zero, List.getElem_cons_succ, List.setIfInBounds_toArray, List.set_cons_zero, List.set_cons_succ]
          refine wpAnyH_take (i := 21) (v := ?_) rfl (by kernel_rfl) (by kernel_rfl) (by kernel_rfl) (fun _ _ _ h => h) (Or.inl ⟨by rfl, fun w' hS' => ?_⟩) (by assumption) ?_
          rotate_left
          · (try dsimp only at hS'); go_simp; (try rw [if_pos (by omega)]); try with_reducible rfl
          try simp only [Act.put, List.getElem_toArray, List.getElem_cons_zero, List.getElem_cons_succ, List.setIfInBounds_toArray, List.set_cons_zero, List.set_cons_succ]
          refine wpAnyH_take (i := 22) (v := ?_) rfl (by kernel_rfl) (by kernel_rfl) (by kernel_rfl) (fun _ _ _ h => h) (Or.inl ⟨by rfl, fun w' hS' => ?_⟩) (by assumption) ?_
          rotate_left
          · (try dsimp only at hS'); go_simp; (try rw [if_pos (by omega)]); try with_reducible rfl
          try simp only [Act.put, List.getElem_toArray, List.getElem_cons_zero, List.getElem_cons_succ, List.setIfInBounds_toArray, List.set_cons_zero, List.set_cons_succ]
          refine wpAnyH_take (i := 23) (v := ?_) rfl (by kernel_rfl) (by kernel_rfl) (by kernel_rfl) (fun _ _ _ h => h) (Or.inl ⟨by rfl, fun w' hS' => ?_⟩) (by assumption) ?_
          rotate_left
          · (try dsimp only at hS'); go_simp; (try rw [if_pos (by omega)]); try with_reducible rfl
          try simp only [Act.put, List.getElem_toArray, List.getElem_cons_zero, List.getElem_cons_succ, List.setIfInBounds_toArray, List.set_cons_zero, List.set_cons_succ]
          refine wpAnyH_take (i := 24) (v := ?_) rfl (by kernel_rfl) (by kernel_rfl) (by kernel_rfl) (fun _ _ _ h => h) (Or.inl ⟨by rfl, fun w' hS' => ?_⟩) (by assumption) ?_
          rotate_left
          · (try dsimp only at hS'); go_simp; (try rw [if_pos (by omega)]); try with_reducible rfl
          try simp only [Act.put, List.getElem_toArray, List.getElem_cons_zero, List.getElem_cons_succ, List.setIfInBounds_toArray, List.set_cons_zero, List.set_cons_succ]
          refine wpAnyH_take (i := 25) (v := ?_) rfl (by kernel_rfl) (by kernel_rfl) (by kernel_rfl) (fun _ _ _ h => h) (Or.inl ⟨by rfl, fun w' hS' => ?_⟩) (by assumption) ?_
          rotate_left
          · (try dsimp only at hS'); go_simp; (try rw [if_pos (by omega)]); try with_reducible rfl
          try simp only [Act.put, List.getElem_toArray, List.getElem_cons_zero, List.getElem_cons_succ, List.setIfInBounds_toArray, List.set_cons_zero, List.set_cons_succ]
          refine wpAnyH_take (i := 26) (v := ?_) rfl (by kernel_rfl) (by kernel_rfl) (by kernel_rfl) (fun _ _ _ h => h) (Or.inl ⟨by rfl, fun w' hS' => ?_⟩) (by assumption) ?_
          rotate_left
          · (try dsimp only at hS'); go_simp; (try rw [if_pos (by omega)]); try with_reducible rfl
          try simp only [Act.put, List.getElem_toArray, List.getElem_cons_zero, List.getElem_cons_succ, List.setIfInBounds_toArray, List.set_cons_zero, List.set_cons_succ]
          refine wpAnyH_take (i := 27) (v := ?_) rfl (by kernel_rfl) (by kernel_rfl) (by kernel_rfl) (fun _ _ _ h => h) (Or.inl ⟨by rfl, fun w' hS' => ?_⟩) (by assumption) ?_
          rotate_left
          · (try dsimp only at hS'); go_simp; (try rw [if_pos (by omega)]); try with_reducible rfl
          try simp only [Act.put, List.getElem_toArray, List.getElem_cons_zero, List.getElem_cons_succ, List.setIfInBounds_toArray, List.set_cons_zero, List.set_cons_succ]
          refine wpAnyH_ready (rs := [28]) (by kernel_rfl) (by simp) ?_
          refine AllReadyH.cons rfl (fun K' hK => ?_) AllReadyH.nil
          refine if_yes (by rfl) ?_
          try simp only [Act.put, List.getElem_toArray, List.getElem_cons_zero, List.getElem_cons_succ, List.setIfInBounds_toArray, List.set_cons_zero, List.set_cons_succ]
          go_simp
          refine (impl_AlikeOk S P _ _ _ ((Z.out.ext hx).base (Nat.zero_le _)) ((X.out.ext hx).base (Nat.zero_le _))).mono ?_
          rintro e u6 ⟨rfl, hbu6⟩
          have hx := ext_trans hx hbu6
          rw [I3.out]
          go_wp2_with fail
          refine hK.out _ _ ?_ (fun hHeld => ?_)
          · exact hkeep.out _ hx
          clear hK K'
          try simp only [Act.put, List.setIfInBounds_toArray, List.set_cons_zero, List.set_cons_succ]
          refine wpAnyH_take (i := 29) (v := ?_) rfl (by kernel_rfl) (by kernel_rfl) (by kernel_rfl) (fun _ _ _ h => h) (Or.inl ⟨by rfl, fun w' hS' => ?_⟩) (by assumption) ?_
          rotate_left
          · (try dsimp only at hS'); go_simp; (try rw [if_pos (by omega)]); try with_reducible rfl
          try simp only [Act.put, List.getElem_toArray, List.getElem_cons_zero, List.getElem_cons_succ, List.setIfInBounds_toArray, List.set_cons_zero, List.set_cons_succ]
          refine wpAnyH_take (i := 30) (v := ?_) rfl (by kernel_rfl) (by kernel_rfl) (by kernel_rfl) (fun _ _ _ h => h) (Or.inl ⟨by rfl, fun w' hS' => ?_⟩) (by assumption) ?_
          rotate_left
          · (try dsimp only at hS'); go_simp; (try rw [if_pos (by omega)]); try with_reducible rfl
          try simp only [Act.put, List.getElem_toArray, List.getElem_cons_zero, List.getElem_cons_succ, List.setIfInBounds_toArray, List.set_cons_zero, List.set_cons_succ]
          refine wpAnyH_done (by kernel_rfl) ?_ _
          try simp only [Act.put, List.setIfInBounds_toArray, List.set_cons_zero, List.set_cons_succ]
          go_wp2_with fail
          go_ret
          exact ⟨rfl, ext_trans E hx⟩
        · clear hK1c
          refine wpAnyH_take (i := 15) (v := ?_) rfl (by kernel_rfl) (by kernel_rfl) (by kernel_rfl) (fun _ _ _ h => h) (Or.inl ⟨by rfl, fun w' hS' => ?_⟩) (by assumption) ?_
          rotate_left
          · (try dsimp only at hS'); go_simp; (try rw [if_pos (by omega)]); try with_reducible rfl
          try simp only [Act.put, List.getElem_toArray, List.getElem_cons_zero, List.getElem_cons_succ, List.setIfInBounds_toArray, List.set_cons_zero, List.set_cons_succ]
          refine wpAnyH_take (i := 16) (v := ?_) rfl (by kernel_rfl) (by kernel_rfl) (by kernel_rfl) (fun _ _ _ h => h) (Or.inl ⟨by rfl, fun w' hS' => ?_⟩) (by assumption) ?_
          rotate_left
          · (try dsimp only at hS'); go_simp; (try rw [if_pos (by omega)]); try with_reducible rfl
          try simp only [Act.put, List.getElem_toArray, List.getElem_cons_zero, List.getElem_cons_succ, List.setIfInBounds_toArray, List.set_cons_zero, List.set_cons_succ]
          refine wpAnyH_take (i := 17) (v := ?_) rfl (by kernel_rfl) (by kernel_rfl) (by kernel_rfl) (fun _ _ _ h => h) (Or.inl ⟨by rfl, fun w' hS' => ?_⟩) (by assumption) ?_
          rotate_left
          · (try dsimp only at hS'); go_simp; (try rw [if_pos (by omega)]); try with_reducible rfl
          try simp only [Act.put, List.getElem_toArray, List.getElem_cons_zero, List.getElem_cons_succ, List.setIfInBounds_toArray, List.set_cons_zero, List.set_cons_succ]
          refine wpAnyH_ready (rs := [18]) (by kernel_rfl) (by simp) ?_
          refine AllReadyH.cons rfl (fun K' hK => ?_) AllReadyH.nil
          refine if_yes (by rfl) ?_
          try simp only [Act.put, List.getElem_toArray, List.getElem_cons_zero, List.getElem_cons_succ, List.setIfInBounds_toArray, List.set_cons_zero, List.set_cons_succ]
          go_simp
          refine (impl_KeepsOk q _ _ tl _ ((Q.out.ext hx).base (Nat.zero_le _)) ((R.out.ext hx).base (Nat.zero_le _))).mono ?_
          rintro e u5 ⟨rfl, hbu5⟩
          have hx := ext_trans hx hbu5
          rw [← hK2.out]
          go_wp2_with fail
          refine hK.out _ _ ?_ (fun hHeld => ?_)
          · exact hkeep.out _ hx
          clear hK K'
          try simp only [Act.put, List.setIfInBounds_toArray, List.set_cons_zero, List.set_cons_succ]
          cases hK2c : K2
          · clear hK2c
            refine wpAnyH_take (i := 19) (v := ?_) rfl (by kernel_rfl) (by kernel_rfl) (by kernel_rfl) (fun _ _ _ h => h) (Or.inl ⟨by rfl, fun w' hS' => ?_⟩) (by assumption) ?_
            rotate_left
            · (try dsimp only at hS'); go_simp; (try rw [if_pos (by omega)]); try with_reducible rfl
            try simp only [Act.put, List.getElem_toArray, List.getElem_cons_zero, List.getElem_cons_succ, List.setIfInBounds_toArray, List.set_cons_zero, List.set_cons_succ]
            refine wpAnyH_take (i := 20) (v := ?_) rfl (by kernel_rfl) (by kernel_rfl) (by kernel_rfl) (fun _ _ _ h => h) (Or.inl ⟨by rfl, fun w' hS' => ?_⟩) (by assumption) ?_
            rotate_left
            · (try dsimp only at hS'); go_simp; (try rw [if_pos (by omega)]); try with_reducible rfl
            try simp only [Act.put, List.getElem_toArray, List.getElem_cons_zero, List.getElem_cons_succ, List.setIfInBounds_toArray, List.set_cons_zero, List.set_cons_succ]
            refine wpAnyH_take (i := 21) (v := ?_) rfl (by kernel_rfl) (by kernel_rfl) (by kernel_rfl) (fun _ _ _ h => h) (Or.inl ⟨by rfl, fun w' hS' => ?_⟩) (by assumption) ?_
            rotate_left
            · (try dsimp only at hS'); go_simp; (try rw [if_pos (by omega)]); try with_reducible rfl
            try simp only [Act.put, List.getElem_toArray, List.getElem_cons_zero, List.getElem_cons_succ, List.setIfInBounds_toArray, List.set_cons_zero, List.set_cons_succ]
            refine wpAnyH_take (i := 22) (v := ?_) rfl (by kernel_rfl) (by kernel_rfl) (by kernel_rfl) (fun _ _ _ h => h) (Or.inl ⟨by rfl, fun w' hS' => ?_⟩) (by assumption) ?_
            rotate_left
            · (try dsimp only at hS'); go_simp; (try rw [if_pos (by omega)]); try with_reducible rfl
            try simp only [Act.put, List.getElem_toArray, List.getElem_cons_zero, List.getElem_cons_succ, List.setIfInBounds_toArray, List.set_cons_zero, List.set_cons_succ]
            refine wpAnyH_take (i := 23) (v := ?_) rfl (by kernel_rfl) (by kernel_rfl) (by kernel_rfl) (fun _ _ _ h => h) (Or.inl ⟨by rfl, fun w' hS' => ?_⟩) (by assumption) ?_
            rotate_left
            · (try dsimp only at hS'); go_simp; (try rw [if_pos (by omega)]); try with_reducible rfl
            try simp only [Act.put, List.getElem_toArray, List.getElem_cons_zero, List.getElem_cons_succ, List.setIfInBounds_toArray, List.set_cons_zero, List.set_cons_succ]
            refine wpAnyH_take (i := 24) (v := ?_) rfl (by kernel_rfl) (by kernel_rfl) (by kernel_rfl) (fun _ _ _ h => h) (Or.inl ⟨by rfl, fun w' hS' => ?_⟩) (by assumption) ?_
            rotate_left
            · (try dsimp only at hS'); go_simp; (try rw [if_pos (by omega)]); try with_reducible rfl
            try simp only [Act.put, List.getElem_toArray, List.getElem_cons_zero, List.getElem_cons_succ, List.setIfInBounds_toArray, List.set_cons_zero, List.set_cons_succ]
            refine wpAnyH_take (i := 25) (v := ?_) rfl (by kernel_rfl) (by kernel_rfl) (by kernel_rfl) (fun _ _ _ h => h) (Or.inl ⟨by rfl, fun w' hS' => ?_⟩) (by assumption) ?_
            rotate_left
            · (try dsimp only at hS'); go_simp; (try rw [if_pos (by omega)]); try with_reducible rfl
            try simp only [Act.put, List.getElem_toArray, List.getElem_cons_zero, List.getElem_cons_succ, List.setIfInBounds_toArray, List.set_cons_zero, List.set_cons_succ]
            refine wpAnyH_take (i := 26) (v := ?_) rfl (by kernel_rfl) (by kernel_rfl) (by kernel_rfl) (fun _ _ _ h => h) (Or.inl ⟨by rfl, fun w' hS' => ?_⟩) (by assumption) ?_
            rotate_left
            · (try dsimp only at hS'); go_simp; (try rw [if_pos (by omega)]); try with_reducible rfl
            try simp only [Act.put, List.getElem_toArray, List.getElem_cons_zero, List.getElem_cons_succ, List.setIfInBounds_toArray, List.set_cons_zero, List.set_cons_succ]
            refine wpAnyH_take (i := 27) (v := ?_) rfl (by kernel_rfl) (by kernel_rfl) (by kernel_rfl) (fun _ _ _ h => h) (Or.inl ⟨by rfl, fun w' hS' => ?_⟩) (by assumption) ?_
            rotate_left
            · (try dsimp only at hS'); go_simp; (try rw [if_pos (by omega)]); try with_reducible rfl
            try simp only [Act.put, List.getElem_toArray, List.getElem_cons_zero, List.getElem_cons_succ, List.setIfInBounds_toArray, List.set_cons_zero, List.set_cons_succ]
            refine wpAnyH_ready (rs := [28]) (by kernel_rfl) (by simp) ?_
            refine AllReadyH.cons rfl (fun K' hK => ?_) AllReadyH.nil
            refine if_yes (by rfl) ?_
            try simp only [Act.put, List.getElem_toArray, List.getElem_cons_zero, List.getElem_cons_succ, List.setIfInBounds_toArray, List.set_cons_zero, List.set_cons_succ]
            go_simp
            refine (impl_AlikeOk S P _ _ _ ((Z.out.ext hx).base (Nat.zero_le _)) ((X.out.ext hx).base (Nat.zero_le _))).mono ?_
            rintro e u6 ⟨rfl, hbu6⟩
            have hx := ext_trans hx hbu6
            rw [I3.out]
            go_wp2_with fail
            refine hK.out _ _ ?_ (fun hHeld => ?_)
            · exact hkeep.out _ hx
            clear hK K'
            try simp only [Act.put, List.setIfInBounds_toArray, List.set_cons_zero, List.set_cons_succ]
            refine wpAnyH_take (i := 29) (v := ?_) rfl (by kernel_rfl) (by kernel_rfl) (by kernel_rfl) (fun _ _ _ h => h) (Or.inl ⟨by rfl, fun w' hS' => ?_⟩) (by assumption) ?_
            rotate_left
            · (try dsimp only at hS'); go_simp; (try rw [if_pos (by omega)]); try with_reducible rfl
            try simp only [Act.put, List.getElem_toArray, List.getElem_cons_zero, List.getElem_cons_succ, List.setIfInBounds_toArray, List.set_cons_zero, List.set_cons_succ]
            refine wpAnyH_take (i := 30) (v := ?_) rfl (by kernel_rfl) (by kernel_rfl) (by kernel_rfl) (fun _ _ _ h => h) (Or.inl ⟨by rfl, fun w' hS' => ?_⟩) (by assumption) ?_
            rotate_left
            · (try dsimp only at hS'); go_simp; (try rw [if_pos (by omega)]); try with_reducible rfl
            try simp only [Act.put, List.getElem_toArray, List.getElem_cons_zero, List.getElem_cons_succ, List.setIfInBounds_toArray, List.set_cons_zero, List.set_cons_succ]
            refine wpAnyH_done (by kernel_rfl) ?_ _
            try simp only [Act.put, List.setIfInBounds_toArray, List.set_cons_zero, List.set_cons_succ]
            go_wp2_with fail
            go_ret
            exact ⟨rfl, ext_trans E hx⟩
          · clear hK2c
            refine wpAnyH_take (i := 19) (v := ?_) rfl (by kernel_rfl) (by kernel_rfl) (by kernel_rfl) (fun _ _ _ h => h) (Or.inl ⟨by rfl, fun w' hS' => ?_⟩) (by assumption) ?_
            rotate_left
            · (try dsimp only at hS'); go_simp; (try rw [if_pos (by omega)]); try with_reducible rfl
            try simp only [Act.put, List.getElem_toArray, List.getElem_cons_zero, List.getElem_cons_succ, List.setIfInBounds_toArray, List.set_cons_zero, List.set_cons_succ]
            refine wpAnyH_take (i := 20) (v := ?_) rfl (by kernel_rfl) (by kernel_rfl) (by kernel_rfl) (fun _ _ _ h => h) (Or.inl ⟨by rfl, fun w' hS' => ?_⟩) (by assumption) ?_
            rotate_left
            · (try dsimp only at hS'); go_simp; (try rw [if_pos (by omega)]); try with_reducible rfl
            try simp only [Act.put, List.getElem_toArray, List.getElem_cons_zero, List.getElem_cons_succ, List.setIfInBounds_toArray, List.set_cons_zero, List.set_cons_succ]
            refine wpAnyH_take (i := 21) (v := ?_) rfl (by kernel_rfl) (by kernel_rfl) (by kernel_rfl) (fun _ _ _ h => h) (Or.inl ⟨by rfl, fun w' hS' => ?_⟩) (by assumption) ?_
            rotate_left
            · (try dsimp only at hS'); go_simp; (try rw [if_pos (by omega)]); try with_reducible rfl
            try simp only [Act.put, List.getElem_toArray, List.getElem_cons_zero, List.getElem_cons_succ, List.setIfInBounds_toArray, List.set_cons_zero, List.set_cons_succ]
            refine wpAnyH_take (i := 22) (v := ?_) rfl (by kernel_rfl) (by kernel_rfl) (by kernel_rfl) (fun _ _ _ h => h) (Or.inl ⟨by rfl, fun w' hS' => ?_⟩) (by assumption) ?_
            rotate_left
            · (try dsimp only at hS'); go_simp; (try rw [if_pos (by omega)]); try with_reducible rfl
            try simp only [Act.put, List.getElem_toArray, List.getElem_cons_zero, List.getElem_cons_succ, List.setIfInBounds_toArray, List.set_cons_zero, List.set_cons_succ]
            refine wpAnyH_take (i := 23) (v := ?_) rfl (by kernel_rfl) (by kernel_rfl) (by kernel_rfl) (fun _ _ _ h => h) (Or.inl ⟨by rfl, fun w' hS' => ?_⟩) (by assumption) ?_
            rotate_left
            · (try dsimp only at hS'); go_simp; (try rw [if_pos (by omega)]); try with_reducible rfl
            try simp only [Act.put, List.getElem_toArray, List.getElem_cons_zero, List.getElem_cons_succ, List.setIfInBounds_toArray, List.set_cons_zero, List.set_cons_succ]
            refine wpAnyH_take (i := 24) (v := ?_) rfl (by kernel_rfl) (by kernel_rfl) (by kernel_rfl) (fun _ _ _ h => h) (Or.inl ⟨by rfl, fun w' hS' => ?_⟩) (by assumption) ?_
            rotate_left
            · (try dsimp only at hS'); go_simp; (try rw [if_pos (by omega)]); try with_reducible rfl
            try simp only [Act.put, List.getElem_toArray, List.getElem_cons_zero, List.getElem_cons_succ, List.setIfInBounds_toArray, List.set_cons_zero, List.set_cons_succ]
            refine wpAnyH_take (i := 25) (v := ?_) rfl (by kernel_rfl) (by kernel_rfl) (by kernel_rfl) (fun _ _ _ h => h) (Or.inl ⟨by rfl, fun w' hS' => ?_⟩) (by assumption) ?_
            rotate_left
            · (try dsimp only at hS'); go_simp; (try rw [if_pos (by omega)]); try with_reducible rfl
            try simp only [Act.put, List.getElem_toArray, List.getElem_cons_zero, List.getElem_cons_succ, List.setIfInBounds_toArray, List.set_cons_zero, List.set_cons_succ]
            refine wpAnyH_take (i := 26) (v := ?_) rfl (by kernel_rfl) (by kernel_rfl) (by kernel_rfl) (fun _ _ _ h => h) (Or.inl ⟨by rfl, fun w' hS' => ?_⟩) (by assumption) ?_
            rotate_left
            · (try dsimp only at hS'); go_simp; (try rw [if_pos (by omega)]); try with_reducible rfl
            try simp only [Act.put, List.getElem_toArray, List.getElem_cons_zero, List.getElem_cons_succ, List.setIfInBounds_toArray, List.set_cons_zero, List.set_cons_succ]
            refine wpAnyH_take (i := 27) (v := ?_) rfl (by kernel_rfl) (by kernel_rfl) (by kernel_rfl) (fun _ _ _ h => h) (Or.inl ⟨by rfl, fun w' hS' => ?_⟩) (by assumption) ?_
            rotate_left
            · (try dsimp only at hS'); go_simp; (try rw [if_pos (by omega)]); try with_reducible rfl
            try simp only [Act.put, List.getElem_toArray, List.getElem_cons_zero, List.getElem_cons_succ, List.setIfInBounds_toArray, List.set_cons_zero, List.set_cons_succ]
            refine wpAnyH_ready (rs := [28]) (by kernel_rfl) (by simp) ?_
            refine AllReadyH.cons rfl (fun K' hK => ?_) AllReadyH.nil
            refine if_yes (by rfl) ?_
            try simp only [Act.put, List.getElem_toArray, List.getElem_cons_zero, List.getElem_cons_succ, List.setIfInBounds_toArray, List.set_cons_zero, List.set_cons_succ]
            go_simp
            refine (impl_AlikeOk S P _ _ _ ((Z.out.ext hx).base (Nat.zero_le _)) ((X.out.ext hx).base (Nat.zero_le _))).mono ?_
            rintro e u6 ⟨rfl, hbu6⟩
            have hx := ext_trans hx hbu6
            rw [I3.out]
            go_wp2_with fail
            refine hK.out _ _ ?_ (fun hHeld => ?_)
            · exact hkeep.out _ hx
            clear hK K'
            try simp only [Act.put, List.setIfInBounds_toArray, List.set_cons_zero, List.set_cons_succ]
            refine wpAnyH_take (i := 29) (v := ?_) rfl (by kernel_rfl) (by kernel_rfl) (by kernel_rfl) (fun _ _ _ h => h) (Or.inl ⟨by rfl, fun w' hS' => ?_⟩) (by assumption) ?_
            rotate_left
            · (try dsimp only at hS'); go_simp; (try rw [if_pos (by omega)]); try with_reducible rfl
            try simp only [Act.put, List.getElem_toArray, List.getElem_cons_zero, List.getElem_cons_succ, List.setIfInBounds_toArray, List.set_cons_zero, List.set_cons_succ]
            refine wpAnyH_take (i := 30) (v := ?_) rfl (by kernel_rfl) (by kernel_rfl) (by kernel_rfl) (fun _ _ _ h => h) (Or.inl ⟨by rfl, fun w' hS' => ?_⟩) (by assumption) ?_
            rotate_left
            · (try dsimp only at hS'); go_simp; (try rw [if_pos (by omega)]); try with_reducible rfl
            try simp only [Act.put, List.getElem_toArray, List.getElem_cons_zero, List.getElem_cons_succ, List.setIfInBounds_toArray, List.set_cons_zero, List.set_cons_succ]
            refine wpAnyH_done (by kernel_rfl) ?_ _
            try simp only [Act.put, List.setIfInBounds_toArray, List.set_cons_zero, List.set_cons_succ]
            go_wp2_with fail
            go_ret
            exact ⟨rfl, ext_trans E hx⟩
end Go.Proofs.Ytlcmhcfnmohgmaa
