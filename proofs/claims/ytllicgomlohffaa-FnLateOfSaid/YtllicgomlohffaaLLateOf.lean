/- The walk of FnLateOf: it returns true, whatever code came in. Condition: the bytes of the code can be read. -/
import Derived.Test.YtllicgomlohffaaDrawnP
import Derived.Test.YtllicgomlohffaaEarlyOf
import Derived.Test.YtllicgomlohffaaLateI
import Derived.Test.YtllicgomlohffaaLateS
import Derived.Test.YtllicgomlohffaaLawInts
import Derived.Test.YtllicgomlohffaaSame
namespace Go.Proofs.Ytllicgomlohffaa
open Go.RowKit
set_option linter.unusedVariables false
set_option linter.unusedSimpArgs false
/-- whether one of the first k tasks ends just at the end -/
def justEnd (p : Pj) : Nat → Bool
  | 0 => false
  | k+1 => justEnd p k || (tOf p k + p.L k == p.len)
theorem justEnd_all {p : Pj} (hn : 0 < p.lo.length) : justEnd p p.lo.length = true := by
  obtain ⟨n, hl⟩ : ∃ n, p.lo.length = n + 1 := ⟨p.lo.length - 1, by omega⟩
  rw [hl]
  have h := (late_is p).hit n (by omega)
  have e : (tOf p n + p.L n == p.len) = true := by
    rcases h with h | ⟨k, h1, h2, -⟩
    · rw [h]; exact beq_self_eq_true _
    · omega
  unfold justEnd
  rw [e, Bool.or_true]
set_option maxRecDepth 100000 in
set_option maxHeartbeats 8000000 in
theorem walk_LateOf (a : Option Addr) (n cap : Nat) (w : World) (h : Byt w w.heap.size a n cap) :
    Calls Try.prog 8 #[.slice a n cap] w fun e w' => e = .returned (.bool true) ∧ Below w.heap.size w w' := by
  have H := Lib.hid h
  obtain ⟨hncap, hcap, -⟩ := id h
  clear h
  by_cases hbig : 1048576 < n
  · go_enter Try.func8, Try.ntmps8
    go_wp2_with fail
    go_ret
    exact ⟨rfl, ext_refl _⟩
  go_enter Try.func8, Try.ntmps8
  go_wp2_with fail
  refine (spec_DrawLateOf a n cap w H.out).mono ?_
  rintro e w1 ⟨v1, v2, l, t, rfl, hV, hU, hl8, ht8, hb1⟩
  have E := hb1
  clear hb1
  obtain ⟨a1, c1, rfl, -⟩ := hV.open
  have V := Lib.hid hV
  clear hV
  obtain ⟨a2, c2, rfl, -⟩ := hU.open
  have U := Lib.hid hU
  clear hU
  go_wp2_with fail
  obtain ⟨w2, hw2, A0, hs2, hb2⟩ := one_box w1 #[.slice a1 l.length c1, .slice a2 t.length c2] 27
  rw [← hw2.out]
  have V := Lib.hid (V.out.ext hb2)
  have U := Lib.hid (U.out.ext hb2)
  have E := ext_trans E hb2
  clear hb2
  obtain ⟨p, hp⟩ : ∃ p : Pj, Hid (p = ⟨l, t⟩) := ⟨_, rfl⟩
  have hpl : Hid (p.lo = l) := by rw [hp.out]; exact Lib.hid rfl
  have hpt : Hid (p.af = t) := by rw [hp.out]; exact Lib.hid rfl
  have V : Hid (Ints w2 w.heap.size (.slice a1 l.length c1) p.lo) := by rw [hpl.out]; exact V
  have U : Hid (Ints w2 w.heap.size (.slice a2 t.length c2) p.af) := by rw [hpt.out]; exact U
  obtain ⟨rcA0, rzA0⟩ := (A0).rules; have rlA0 := (A0).lt
  go_wp2_with fail
  obtain ⟨T0, hT0⟩ : ∃ T0 : List Int, Hid (T0 = p.lateOf) := ⟨_, rfl⟩
  refine (impl_LateOf p _ _ _ (V.out.base (Nat.zero_le _)) (U.out.base (Nat.zero_le _))).mono ?_
  rintro e w3 ⟨vX, rfl, hX, hb3⟩
  clear rcA0 rzA0 rlA0
  have A0 := A0.ext hb3
  have V := Lib.hid (V.out.ext hb3)
  have U := Lib.hid (U.out.ext hb3)
  have E := ext_trans E hb3
  clear hb3
  obtain ⟨aX, cX, rfl, -⟩ := hX.open
  have X := Lib.hid hX
  clear hX
  rw [← hT0.out] at X ⊢
  obtain ⟨rcA0, rzA0⟩ := (A0).rules; have rlA0 := (A0).lt
  go_wp2_with fail
  refine (spec_LateOf p _ _ _ (V.out.base (Nat.zero_le _)) (U.out.base (Nat.zero_le _))).mono ?_
  rintro e w4 ⟨vY, rfl, hY, hb4⟩
  clear rcA0 rzA0 rlA0
  have A0 := A0.ext hb4
  have V := Lib.hid (V.out.ext hb4)
  have U := Lib.hid (U.out.ext hb4)
  have X := Lib.hid (X.out.ext hb4)
  have E := ext_trans E hb4
  clear hb4
  obtain ⟨aY, cY, rfl, -⟩ := hY.open
  have Y := Lib.hid hY
  clear hY
  rw [← hT0.out] at Y ⊢
  obtain ⟨rcA0, rzA0⟩ := (A0).rules; have rlA0 := (A0).lt
  go_wp2_with fail
  refine (laws_sameInts _ _ T0 T0 _ (X.out.base (Nat.zero_le _)) (Y.out.base (Nat.zero_le _))).mono ?_
  rintro e w5 ⟨rfl, hb5⟩
  clear rcA0 rzA0 rlA0
  have A0 := A0.ext hb5
  have V := Lib.hid (V.out.ext hb5)
  have U := Lib.hid (U.out.ext hb5)
  have X := Lib.hid (X.out.ext hb5)
  have Y := Lib.hid (Y.out.ext hb5)
  have E := ext_trans E hb5
  clear hb5
  rw [decide_eq_true rfl]
  obtain ⟨rcA0, rzA0⟩ := (A0).rules; have rlA0 := (A0).lt
  have HT0 := Lib.hid hT0.out
  by_cases hE0 : T0.length = 0
  · have hz0 : ((T0.length : Int) == 0) = true := by simp [hE0]
    have HE := Lib.hid hE0
    by_cases hl0 : l.length = 0
    · have he0 : ((l.length : Int) == 0) = true := by simp [hl0]
      have Hl0 := Lib.hid hl0
      clear hl0 hE0
      go_wp2_with fail
      refine (laws_alive _).mono ?_
      rintro e w6 ⟨rfl, hb6⟩
      clear rcA0 rzA0 rlA0
      have A0 := A0.ext hb6
      have V := Lib.hid (V.out.ext hb6)
      have U := Lib.hid (U.out.ext hb6)
      have X := Lib.hid (X.out.ext hb6)
      have Y := Lib.hid (Y.out.ext hb6)
      have E := ext_trans E hb6
      clear hb6
      go_wp2_with fail
      go_ret
      exact ⟨rfl, E⟩
    · have he0 : ((l.length : Int) == 0) = false := beq_false_of_ne (by omega)
      have Hl0 := Lib.hid hl0
      clear hl0 hE0
      have Hok : Hid (p.ok = false) := by
        cases hok : p.ok
        · exact Lib.hid rfl
        · exfalso
          have h1 := HE.out
          rw [HT0.out, show p.lateOf = p.late from if_pos hok, late_len, hpl.out] at h1
          exact Hl0.out h1
      go_wp2_with fail
      refine (impl_ProjectOk p _ _ _ (V.out.base (Nat.zero_le _)) (U.out.base (Nat.zero_le _))).mono ?_
      rintro e w6 ⟨rfl, hb6⟩
      clear rcA0 rzA0 rlA0
      have A0 := A0.ext hb6
      have V := Lib.hid (V.out.ext hb6)
      have U := Lib.hid (U.out.ext hb6)
      have X := Lib.hid (X.out.ext hb6)
      have Y := Lib.hid (Y.out.ext hb6)
      have E := ext_trans E hb6
      clear hb6
      rw [Hok.out]
      obtain ⟨rcA0, rzA0⟩ := (A0).rules; have rlA0 := (A0).lt
      go_wp2_with fail
      refine (laws_alive _).mono ?_
      rintro e w7 ⟨rfl, hb7⟩
      clear rcA0 rzA0 rlA0
      have A0 := A0.ext hb7
      have V := Lib.hid (V.out.ext hb7)
      have U := Lib.hid (U.out.ext hb7)
      have X := Lib.hid (X.out.ext hb7)
      have Y := Lib.hid (Y.out.ext hb7)
      have E := ext_trans E hb7
      clear hb7
      go_wp2_with fail
      go_ret
      exact ⟨rfl, E⟩
  · have hz0 : ((T0.length : Int) == 0) = false := beq_false_of_ne (by omega)
    have Hok : Hid (p.ok = true) := by
      cases hok : p.ok
      · exfalso
        rw [HT0.out, show p.lateOf = [] from if_neg (by simp [hok])] at hE0
        exact hE0 rfl
      · exact Lib.hid rfl
    have HT0 : Hid (T0 = p.late) := by rw [HT0.out]; exact Lib.hid (if_pos Hok.out)
    obtain ⟨N, hN⟩ : ∃ N, Hid (N = p.lo.length) := ⟨_, rfl⟩
    have hTN : Hid (T0.length = N) := by rw [HT0.out, late_len, hN.out]; exact Lib.hid rfl
    have hlN : Hid (l.length = N) := by rw [hN.out, hpl.out]; exact Lib.hid rfl
    obtain ⟨hl6, haf, hLs, hAs⟩ := ok_upto Hok.out
    have htN : Hid (t.length = N) := by rw [← hpt.out, haf, hN.out]; exact Lib.hid rfl
    have hN6 : N ≤ 6 := by rw [hN.out]; exact hl6
    have hN0 : 0 < N := by have := hTN.out; omega
    have HLs := Lib.hid hLs; have HAs := Lib.hid hAs
    have Hin := Lib.hid (late_in Hok.out)
    have hlen := len_in Hok.out
    have Hear := Lib.hid (early_in Hok.out)
    have Hup := Lib.hid (late_is p).up
    have Hge := Lib.hid (late_early (early_is p) (late_is p))
    rw [hTN.out] at X hz0 ⊢
    rw [hlN.out] at V A0
    rw [htN.out] at U A0
    clear hl6 haf hLs hAs hE0
    clear rcA0 rzA0 rlA0
    obtain ⟨rcA0, rzA0⟩ := (A0).rules; have rlA0 := (A0).lt
    go_wp2_with fail
    refine (impl_EarlyOf p _ _ _ (V.out.base (Nat.zero_le _)) (U.out.base (Nat.zero_le _))).mono ?_
    rintro e w6 ⟨vZ, rfl, hZ, hb6⟩
    clear rcA0 rzA0 rlA0
    have A0 := A0.ext hb6
    have V := Lib.hid (V.out.ext hb6)
    have U := Lib.hid (U.out.ext hb6)
    have X := Lib.hid (X.out.ext hb6)
    have Y := Lib.hid (Y.out.ext hb6)
    have E := ext_trans E hb6
    clear hb6
    obtain ⟨aZ, cZ, rfl, -⟩ := hZ.open
    have Z := Lib.hid hZ
    clear hZ
    obtain ⟨T1, hT1⟩ : ∃ T1, Hid (T1 = p.earlyOf) := ⟨_, rfl⟩
    rw [← hT1.out] at Z ⊢
    have hT1e : Hid (T1 = p.early) := by rw [hT1.out]; exact Lib.hid (if_pos Hok.out)
    have hZN : Hid (T1.length = N) := by rw [hT1e.out, early_len, hN.out]; exact Lib.hid rfl
    rw [hZN.out] at Z ⊢
    rw [hT1e.out] at Z
    obtain ⟨rcA0, rzA0⟩ := (A0).rules; have rlA0 := (A0).lt
    go_wp2_with fail
    refine (impl_LengthOf p _ _ _ (V.out.base (Nat.zero_le _)) (U.out.base (Nat.zero_le _))).mono ?_
    rintro e w7 ⟨rfl, hb7⟩
    clear rcA0 rzA0 rlA0
    have A0 := A0.ext hb7
    have V := Lib.hid (V.out.ext hb7)
    have U := Lib.hid (U.out.ext hb7)
    have X := Lib.hid (X.out.ext hb7)
    have Y := Lib.hid (Y.out.ext hb7)
    have Z := Lib.hid (Z.out.ext hb7)
    have E := ext_trans E hb7
    clear hb7
    rw [show p.lenOf = p.len from if_pos Hok.out]
    obtain ⟨ln, hln⟩ : ∃ x, Hid (x = p.len) := ⟨_, rfl⟩
    rw [← hln.out] at hlen ⊢
    obtain ⟨rcA0, rzA0⟩ := (A0).rules; have rlA0 := (A0).lt
    have hNN : ((N : Int) != (N : Int)) = false := by simp
    go_wp2_with fail
    go_loopg [7, 8] N (fun m bb kk wr => ∃ k : Nat, k ≤ N ∧ m = N - k ∧ kk = .int .i64 k ∧ bb = .bool (justEnd p k) ∧ Below w7.heap.size w7 wr)
    case atStart => exact ⟨0, by omega, by omega, rfl, rfl, ext_refl _⟩
    case round =>
      clear rcA0 rzA0 rlA0
      obtain ⟨k, hk, hgk, rfl, rfl, hbel⟩ := hrel
      have Hk := Lib.hid hgk
      clear hgk
      obtain ⟨kb, hkb⟩ : ∃ b, Hid (b = justEnd p k) := ⟨_, rfl⟩
      rw [← hkb.out]
      have B0 := A0.ext hbel
      have E1 := ext_trans E hbel
      obtain ⟨rcB0, rzB0⟩ := (B0).rules; have rlB0 := (B0).lt
      by_cases hlt : k < N
      · have hkl : k < p.lo.length := by rw [← hN.out]; exact hlt
        have hka : k < p.af.length := by rw [hpt.out, htN.out]; exact hlt
        have hkT : k < T0.length := by rw [hTN.out]; exact hlt
        have hke : k < p.early.length := by rw [early_len]; exact hkl
        obtain ⟨gx, hax, _, hgx, _, cu⟩ := (X.out.ext hbel).at_ hkT
        subst hax
        obtain ⟨gz, haz, _, hgz, _, ce⟩ := (Z.out.ext hbel).at_ hke
        subst haz
        obtain ⟨g2, ha2, _, hg2, _, cA⟩ := (U.out.ext hbel).at_ hka
        subst ha2
        obtain ⟨g1, ha1, _, hg1, _, cy⟩ := (V.out.ext hbel).at_ hkl
        subst ha1
        obtain ⟨u, Hu⟩ : ∃ x, Hid (x = tOf p k) := ⟨_, rfl⟩
        obtain ⟨e0, He⟩ : ∃ x, Hid (x = p.early.getD k 0) := ⟨_, rfl⟩
        obtain ⟨z, Hz⟩ : ∃ x, Hid (x = p.A k) := ⟨_, rfl⟩
        obtain ⟨y, Hy⟩ : ∃ x, Hid (x = p.L k) := ⟨_, rfl⟩
        rw [show T0.getD k 0 = u by rw [HT0.out, Hu.out]; rfl] at cu
        rw [← He.out] at ce
        rw [show p.af.getD k 0 = z from Hz.out.symm] at cA
        rw [show p.lo.getD k 0 = y from Hy.out.symm] at cy
        have hy := HLs.out k hkl
        rw [← Hy.out] at hy
        have hu := Hin.out k hkl
        rw [← Hu.out, ← Hy.out, ← hln.out] at hu
        have he1 := Hear.out k hke
        rw [← He.out] at he1
        have heu : e0 ≤ u := by rw [He.out, Hu.out]; exact Hge.out _ k rfl hkl
        have hz := HAs.out k hkl
        have hz0 : 0 ≤ z := by rw [Hz.out]; exact hz.1
        have hz1 : z ≤ 64 := by have := two_pow_in k (by omega); rw [Hz.out]; omega
        clear hz
        have hw1 : IntKind.i64.wrap (u + y) = u + y := IntWalk.i64_in _ (by omega)
        have hnu : ¬ u < e0 := by omega
        have hnl : ¬ ln < u + y := by omega
        go_wp2_with fail
        go_loopg [9] k (fun m jj wx => ∃ j : Nat, j ≤ k ∧ m = k - j ∧ jj = .int .i64 j ∧ Below w7.heap.size w7 wx)
        case atStart => exact ⟨0, by omega, by omega, rfl, hbel⟩
        case round =>
          rename World => wx
          clear cu ce cA cy rcB0 rzB0 rlB0 B0 E1
          obtain ⟨j, hj, hgk, rfl, hbel⟩ := hrel
          have Hj := Lib.hid hgk
          clear hgk
          have B0 := A0.ext hbel
          obtain ⟨rcB0, rzB0⟩ := (B0).rules; have rlB0 := (B0).lt
          have cu : wx.cell? ⟨gx, k, none⟩ = some (.int .i64 u) := by rw [(X.out.ext hbel).cellI hkT, HT0.out, Hu.out]; rfl
          have ce : wx.cell? ⟨gz, k, none⟩ = some (.int .i64 e0) := by rw [(Z.out.ext hbel).cellI hke, He.out]
          have cA : wx.cell? ⟨g2, k, none⟩ = some (.int .i64 z) := by rw [(U.out.ext hbel).cellI hka, Hz.out]; rfl
          have cy : wx.cell? ⟨g1, k, none⟩ = some (.int .i64 y) := by rw [(V.out.ext hbel).cellI hkl, Hy.out]; rfl
          by_cases hlj : j < k
          · have hd := div_pow_le z j hz0 (by omega)
            have hjl : j < p.lo.length := by omega
            have hjT : j < T0.length := by omega
            obtain ⟨uj, Huj⟩ : ∃ x, Hid (x = tOf p j) := ⟨_, rfl⟩
            obtain ⟨yj, Hyj⟩ : ∃ x, Hid (x = p.L j) := ⟨_, rfl⟩
            have cuj : wx.cell? ⟨gx, j, none⟩ = some (.int .i64 uj) := by rw [(X.out.ext hbel).cellI hjT, HT0.out, Huj.out]; rfl
            have cyj : wx.cell? ⟨g1, j, none⟩ = some (.int .i64 yj) := by rw [(V.out.ext hbel).cellI hjl, Hyj.out]; rfl
            have hyj := HLs.out j hjl
            rw [← Hyj.out] at hyj
            have huj := Hin.out j hjl
            rw [← Huj.out, ← Hyj.out, ← hln.out] at huj
            have hw2 : IntKind.i64.wrap (uj + yj) = uj + yj := IntWalk.i64_in _ (by omega)
            cases hb : bit z j
            · have he : (z / 2 ^ j % 2 == 1) = false := hb
              have Hb := Lib.hid hb
              clear hb
              go_wp2_with fail
              go_quiet (fail)
              go_wp2_with fail
              go_roundg (k - (j+1))
              case rel => exact ⟨j+1, by omega, rfl, by go_num, ext_trans hbel (ext_drewN' _ _)⟩
              case measure => have := Hj.out; omega
            · have he : (z / 2 ^ j % 2 == 1) = true := hb
              have hup : uj + yj ≤ u := by rw [Huj.out, Hyj.out, Hu.out]; exact Hup.out k hkl j hlj (by rw [← Hz.out]; exact hb)
              have hnn : ¬ u < uj + yj := by omega
              have Hb := Lib.hid hb
              clear hb
              go_wp2_with fail
              go_quiet (fail)
              go_wp2_with fail
              go_roundg (k - (j+1))
              case rel => exact ⟨j+1, by omega, rfl, by go_num, ext_trans hbel (ext_drewN' _ _)⟩
              case measure => have := Hj.out; omega
          · have hjk : k = j := by omega
            subst hjk
            have hnext : Hid (justEnd p (k+1) = (kb || (u + y == ln))) := by rw [hkb.out, Hu.out, Hy.out, hln.out]; exact Lib.hid rfl
            cases kb
            · cases heq : (u + y == ln)
              · have Heq := Lib.hid heq
                go_wp2_with fail
                go_quiet (fail)
                go_wp2_with fail
                go_quiet (fail)
                go_wp2_with fail
                go_roundg (N - (k+1))
                case rel => exact ⟨k+1, by omega, rfl, by go_num, by rw [hnext.out]; rw [Heq.out]; rfl, by first | exact ext_trans hbel (ext_drewN' _ _) | exact ext_trans (ext_trans hbel (ext_drewN' _ _)) (ext_drewN' _ _)⟩
                case measure => have := Hk.out; omega
              · have Heq := Lib.hid heq
                go_wp2_with fail
                go_quiet (fail)
                go_wp2_with fail
                go_quiet (fail)
                go_wp2_with fail
                go_roundg (N - (k+1))
                case rel => exact ⟨k+1, by omega, rfl, by go_num, by rw [hnext.out]; rw [Heq.out]; rfl, by first | exact ext_trans hbel (ext_drewN' _ _) | exact ext_trans (ext_trans hbel (ext_drewN' _ _)) (ext_drewN' _ _)⟩
                case measure => have := Hk.out; omega
            · skip
              go_wp2_with fail
              go_quiet (fail)
              go_wp2_with fail
              go_quiet (fail)
              go_wp2_with fail
              go_roundg (N - (k+1))
              case rel => exact ⟨k+1, by omega, rfl, by go_num, by rw [hnext.out]; rfl, by first | exact ext_trans hbel (ext_drewN' _ _) | exact ext_trans (ext_trans hbel (ext_drewN' _ _)) (ext_drewN' _ _)⟩
              case measure => have := Hk.out; omega
      · have hkN : N = k := by omega
        subst hkN
        have hkt : kb = true := by rw [hkb.out, hN.out]; exact justEnd_all (by rw [← hN.out]; exact hN0)
        subst hkt
        go_wp2_with fail
        go_ret
        exact ⟨rfl, E1⟩
end Go.Proofs.Ytllicgomlohffaa
