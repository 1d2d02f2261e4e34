/- The walk of FnEarlyOf: it returns true, whatever code came in. Condition: the bytes of the code can be read. -/
import Derived.Test.YtllicgomlohffaaDrawnP
import Derived.Test.YtllicgomlohffaaEarlyOf
import Derived.Test.YtllicgomlohffaaLawInts
import Derived.Test.YtllicgomlohffaaSame
import Derived.Test.YtllicgomlohffaaLate
namespace Go.Proofs.Ytllicgomlohffaa
open Go.RowKit
set_option linter.unusedVariables false
set_option linter.unusedSimpArgs false
/-- whether task k begins just when it may, by the first j tasks -/
def justAt (p : Pj) (k : Nat) : Nat → Bool
  | 0 => (p.early.getD k 0 == 0) && (p.A k == 0)
  | j+1 => if bit (p.A k) j then justAt p k j || (p.early.getD j 0 + p.L j == p.early.getD k 0) else justAt p k j
theorem just_mono (p : Pj) (k : Nat) : ∀ j i, i ≤ j → justAt p k i = true → justAt p k j = true
  | 0, i, h, hi => by obtain rfl : i = 0 := by omega
                      exact hi
  | j+1, i, h, hi => by
    by_cases hij : i = j + 1
    · subst hij; exact hi
    · have := just_mono p k j i (by omega) hi
      unfold justAt
      split <;> simp [this]
theorem just_all {p : Pj} (h : p.ok = true) {k : Nat} (hk : k < p.lo.length) : justAt p k k = true := by
  have he := early_is p
  obtain ⟨h1, h2, h3, h4⟩ := ok_upto h
  rcases he.hit k hk with h0 | ⟨j, hj, hb, hs⟩
  · refine just_mono p k k 0 (Nat.zero_le _) ?_
    have hz : p.A k = 0 := bits_zero k (p.A k) (h4 k hk).1 (h4 k hk).2 fun j hj => by
      cases hb : bit (p.A k) j
      · rfl
      · have := he.up k hk j hj hb
        have := he.pos j (by omega)
        have := h3 j (by omega)
        omega
    simp only [justAt, hz, h0]
    rfl
  · refine just_mono p k k (j+1) (by omega) ?_
    unfold justAt
    have e : (p.early.getD j 0 + p.L j == p.early.getD k 0) = true := by rw [hs]; exact beq_self_eq_true _
    rw [if_pos hb, e, Bool.or_true]
set_option maxRecDepth 100000 in
set_option maxHeartbeats 8000000 in
theorem walk_EarlyOf (a : Option Addr) (n cap : Nat) (w : World) (h : Byt w w.heap.size a n cap) :
    Calls Try.prog 4 #[.slice a n cap] w fun e w' => e = .returned (.bool true) ∧ Below w.heap.size w w' := by
  have H := Lib.hid h
  obtain ⟨hncap, hcap, -⟩ := id h
  clear h
  by_cases hbig : 1048576 < n
  · go_enter Try.func4, Try.ntmps4
    go_wp2_with fail
    go_ret
    exact ⟨rfl, ext_refl _⟩
  go_enter Try.func4, Try.ntmps4
  go_wp2_with fail
  refine (spec_DrawEarlyOf a n cap w H.out).mono ?_
  rintro e w1 ⟨v1, v2, l, t, rfl, hV, hU, hl8, ht8, hb1⟩
  have E := hb1
  clear hb1
  obtain ⟨a1, c1, rfl, -⟩ := hV.open
  have V := Lib.hid hV
  clear hV
  obtain ⟨a2, c2, rfl, -⟩ := hU.open
  have U := Lib.hid hU
  clear hU
  go_wp2_with fail
  obtain ⟨w2, hw2, A0, hs2, hb2⟩ := one_box w1 #[.slice a1 l.length c1, .slice a2 t.length c2] 27
  rw [← hw2.out]
  have V := Lib.hid (V.out.ext hb2)
  have U := Lib.hid (U.out.ext hb2)
  have E := ext_trans E hb2
  clear hb2
  obtain ⟨p, hp⟩ : ∃ p : Pj, Hid (p = ⟨l, t⟩) := ⟨_, rfl⟩
  have hpl : Hid (p.lo = l) := by rw [hp.out]; exact Lib.hid rfl
  have hpt : Hid (p.af = t) := by rw [hp.out]; exact Lib.hid rfl
  have V : Hid (Ints w2 w.heap.size (.slice a1 l.length c1) p.lo) := by rw [hpl.out]; exact V
  have U : Hid (Ints w2 w.heap.size (.slice a2 t.length c2) p.af) := by rw [hpt.out]; exact U
  obtain ⟨rcA0, rzA0⟩ := (A0).rules; have rlA0 := (A0).lt
  go_wp2_with fail
  obtain ⟨E0, hE0⟩ : ∃ E0 : List Int, Hid (E0 = p.earlyOf) := ⟨_, rfl⟩
  refine (impl_EarlyOf p _ _ _ (V.out.base (Nat.zero_le _)) (U.out.base (Nat.zero_le _))).mono ?_
  rintro e w3 ⟨vX, rfl, hX, hb3⟩
  clear rcA0 rzA0 rlA0
  have A0 := A0.ext hb3
  have V := Lib.hid (V.out.ext hb3)
  have U := Lib.hid (U.out.ext hb3)
  have E := ext_trans E hb3
  clear hb3
  obtain ⟨aX, cX, rfl, -⟩ := hX.open
  have X := Lib.hid hX
  clear hX
  rw [← hE0.out] at X ⊢
  obtain ⟨rcA0, rzA0⟩ := (A0).rules; have rlA0 := (A0).lt
  go_wp2_with fail
  refine (spec_EarlyOf p _ _ _ (V.out.base (Nat.zero_le _)) (U.out.base (Nat.zero_le _))).mono ?_
  rintro e w4 ⟨vY, rfl, hY, hb4⟩
  clear rcA0 rzA0 rlA0
  have A0 := A0.ext hb4
  have V := Lib.hid (V.out.ext hb4)
  have U := Lib.hid (U.out.ext hb4)
  have X := Lib.hid (X.out.ext hb4)
  have E := ext_trans E hb4
  clear hb4
  obtain ⟨aY, cY, rfl, -⟩ := hY.open
  have Y := Lib.hid hY
  clear hY
  rw [← hE0.out] at Y ⊢
  obtain ⟨rcA0, rzA0⟩ := (A0).rules; have rlA0 := (A0).lt
  go_wp2_with fail
  refine (laws_sameInts _ _ E0 E0 _ (X.out.base (Nat.zero_le _)) (Y.out.base (Nat.zero_le _))).mono ?_
  rintro e w5 ⟨rfl, hb5⟩
  clear rcA0 rzA0 rlA0
  have A0 := A0.ext hb5
  have V := Lib.hid (V.out.ext hb5)
  have U := Lib.hid (U.out.ext hb5)
  have X := Lib.hid (X.out.ext hb5)
  have Y := Lib.hid (Y.out.ext hb5)
  have E := ext_trans E hb5
  clear hb5
  rw [decide_eq_true rfl]
  obtain ⟨rcA0, rzA0⟩ := (A0).rules; have rlA0 := (A0).lt
  have HE0 := Lib.hid hE0.out
  by_cases hE0 : E0.length = 0
  · have hz0 : ((E0.length : Int) == 0) = true := by simp [hE0]
    have HE := Lib.hid hE0
    by_cases hl0 : l.length = 0
    · have he0 : ((l.length : Int) == 0) = true := by simp [hl0]
      have Hl0 := Lib.hid hl0
      clear hl0 hE0
      go_wp2_with fail
      refine (laws_alive _).mono ?_
      rintro e w6 ⟨rfl, hb6⟩
      clear rcA0 rzA0 rlA0
      have A0 := A0.ext hb6
      have V := Lib.hid (V.out.ext hb6)
      have U := Lib.hid (U.out.ext hb6)
      have X := Lib.hid (X.out.ext hb6)
      have Y := Lib.hid (Y.out.ext hb6)
      have E := ext_trans E hb6
      clear hb6
      go_wp2_with fail
      go_ret
      exact ⟨rfl, E⟩
    · have he0 : ((l.length : Int) == 0) = false := beq_false_of_ne (by omega)
      have Hl0 := Lib.hid hl0
      clear hl0 hE0
      have Hok : Hid (p.ok = false) := by
        cases hok : p.ok
        · exact Lib.hid rfl
        · exfalso
          have h1 := HE.out
          rw [HE0.out, show p.earlyOf = p.early from if_pos hok, early_len, hpl.out] at h1
          exact Hl0.out h1
      go_wp2_with fail
      refine (impl_ProjectOk p _ _ _ (V.out.base (Nat.zero_le _)) (U.out.base (Nat.zero_le _))).mono ?_
      rintro e w6 ⟨rfl, hb6⟩
      clear rcA0 rzA0 rlA0
      have A0 := A0.ext hb6
      have V := Lib.hid (V.out.ext hb6)
      have U := Lib.hid (U.out.ext hb6)
      have X := Lib.hid (X.out.ext hb6)
      have Y := Lib.hid (Y.out.ext hb6)
      have E := ext_trans E hb6
      clear hb6
      rw [Hok.out]
      obtain ⟨rcA0, rzA0⟩ := (A0).rules; have rlA0 := (A0).lt
      go_wp2_with fail
      refine (laws_alive _).mono ?_
      rintro e w7 ⟨rfl, hb7⟩
      clear rcA0 rzA0 rlA0
      have A0 := A0.ext hb7
      have V := Lib.hid (V.out.ext hb7)
      have U := Lib.hid (U.out.ext hb7)
      have X := Lib.hid (X.out.ext hb7)
      have Y := Lib.hid (Y.out.ext hb7)
      have E := ext_trans E hb7
      clear hb7
      go_wp2_with fail
      go_ret
      exact ⟨rfl, E⟩
  · have hz0 : ((E0.length : Int) == 0) = false := beq_false_of_ne (by omega)
    have Hok : Hid (p.ok = true) := by
      cases hok : p.ok
      · exfalso
        rw [HE0.out, show p.earlyOf = [] from if_neg (by simp [hok])] at hE0
        exact hE0 rfl
      · exact Lib.hid rfl
    have HE0 : Hid (E0 = p.early) := by rw [HE0.out]; exact Lib.hid (if_pos Hok.out)
    obtain ⟨N, hN⟩ : ∃ N, Hid (N = E0.length) := ⟨_, rfl⟩
    have hNl : Hid (N = l.length) := by rw [hN.out, HE0.out, early_len, hpl.out]; exact Lib.hid rfl
    obtain ⟨hl6, haf, hLs, hAs⟩ := ok_upto Hok.out
    have hNt : Hid (t.length = N) := by rw [← hpt.out, haf, hNl.out, hpl.out]; exact Lib.hid rfl
    have hN6 : N ≤ 6 := by rw [hNl.out, ← hpl.out]; exact hl6
    have HLs := Lib.hid hLs; have HAs := Lib.hid hAs
    have Hin := Lib.hid (early_in Hok.out)
    have Hup := Lib.hid (early_is p).up
    clear hl6 haf hLs hAs hE0
    go_wp2_with fail
    go_loopg [5] E0.length (fun m kk wr => ∃ k : Nat, k ≤ E0.length ∧ m = E0.length - k ∧ kk = .int .i64 k ∧ Below w5.heap.size w5 wr)
    case atStart => exact ⟨0, by omega, by omega, rfl, ext_refl _⟩
    case round =>
      clear rcA0 rzA0 rlA0
      obtain ⟨k, hk, hgk, rfl, hbel⟩ := hrel
      have Hk := Lib.hid hgk
      clear hgk
      have B0 := A0.ext hbel
      have E1 := ext_trans E hbel
      obtain ⟨rc0, rz0⟩ := (B0).rules; have rl0 := (B0).lt
      by_cases hlt : k < E0.length
      · have hkl : k < p.lo.length := by rw [hpl.out, ← hNl.out, hN.out]; exact hlt
        have hka : k < p.af.length := by rw [hpt.out, hNt.out, hN.out]; exact hlt
        have hkt : k < t.length := by rw [← hpt.out]; exact hka
        obtain ⟨gx, hax, _, hgx, _, ck⟩ := (X.out.ext hbel).at_ hlt
        subst hax
        obtain ⟨g2, ha2, _, hg2, _, cA⟩ := (U.out.ext hbel).at_ hka
        subst ha2
        obtain ⟨x, Hx⟩ : ∃ x, Hid (x = p.early.getD k 0) := ⟨_, rfl⟩
        obtain ⟨z, Hz⟩ : ∃ z, Hid (z = p.A k) := ⟨_, rfl⟩
        rw [show E0.getD k 0 = x by rw [HE0.out, Hx.out]] at ck
        rw [show p.af.getD k 0 = z from Hz.out.symm] at cA
        have hx : 0 ≤ x ∧ x ≤ 120 := by rw [Hx.out]; exact Hin.out k (by rw [early_len]; exact hkl)
        have hz := HAs.out k hkl
        have hz0 : 0 ≤ z := by rw [Hz.out]; exact hz.1
        have hz1 : z ≤ 64 := by have := two_pow_in k (by rw [← hN.out] at hlt; omega); rw [Hz.out]; omega
        clear hz
        have Hj0 : Hid (justAt p k 0 = ((x == 0) && (z == 0))) := by rw [Hx.out, Hz.out]; exact Lib.hid rfl
        obtain ⟨b0, hb0⟩ : ∃ b, Hid (b = justAt p k 0) := ⟨_, rfl⟩
        have hxz : ((x == 0) && (z == 0)) = b0 := by rw [hb0.out, Hj0.out]
        by_cases hx0 : x = 0
        · have hx0b : (x == 0) = true := by simp [hx0]
          have hb0z : b0 = (z == 0) := by rw [← hxz, hx0b]; rfl
          have Hx0 := Lib.hid hx0
          clear hx0 hxz
          cases hzb : (z == 0)
          · have Hzb := Lib.hid hzb
            go_wp2_with fail
            go_loopg [6, 7] k (fun m bb jj wx => ∃ j : Nat, j ≤ k ∧ m = k - j ∧ jj = .int .i64 j ∧ bb = .bool (justAt p k j) ∧ Below w5.heap.size w5 wx)
            case atStart => exact ⟨0, by omega, by omega, rfl, by rw [← hb0.out, hb0z, Hzb.out], hbel⟩
            case round =>
              rename World => wx
              clear ck cA rc0 rz0 rl0 B0 E1
              obtain ⟨j, hj, hgk, rfl, rfl, hbel⟩ := hrel
              have Hj := Lib.hid hgk
              clear hgk
              have B0 := A0.ext hbel
              obtain ⟨rcB0, rzB0⟩ := (B0).rules; have rlB0 := (B0).lt
              have ck : wx.cell? ⟨gx, k, none⟩ = some (.int .i64 x) := by rw [(X.out.ext hbel).cellI hlt, HE0.out, Hx.out]
              have cA : wx.cell? ⟨g2, k, none⟩ = some (.int .i64 z) := by rw [(U.out.ext hbel).cellI hka, Hz.out]; rfl
              obtain ⟨jb, hjb⟩ : ∃ b, Hid (b = justAt p k j) := ⟨_, rfl⟩
              rw [← hjb.out]
              by_cases hlj : j < k
              · have hd := div_pow_le z j hz0 (by omega)
                cases hb : bit z j
                · have hm2 := Int.emod_two_eq (z / 2 ^ j)
                  have he : (z / 2 ^ j % 2 == 0) = true := by
                    have h1 : (z / 2 ^ j % 2 == 1) = false := hb
                    simp at h1 ⊢
                    omega
                  have Hb := Lib.hid hb
                  clear hb hm2
                  go_wp2_with fail
                  go_roundg (k - (j+1))
                  case rel => exact ⟨j+1, by omega, rfl, by go_num, by rw [hjb.out, show justAt p k (j+1) = justAt p k j by simp [justAt, ← Hz.out, Hb.out]], hbel⟩
                  case measure => have := Hj.out; omega
                · have hm2 := Int.emod_two_eq (z / 2 ^ j)
                  have he : (z / 2 ^ j % 2 == 0) = false := by
                    have h1 : (z / 2 ^ j % 2 == 1) = true := hb
                    simp at h1 ⊢
                    omega
                  have Hb := Lib.hid hb
                  clear hb hm2
                  have hjE : j < E0.length := by omega
                  have hjl : j < p.lo.length := by omega
                  have hjl2 : j < l.length := by rw [← hpl.out]; exact hjl
                  obtain ⟨g1, ha1, _, hg1, _, cy⟩ := (V.out.ext hbel).at_ hjl
                  subst ha1
                  obtain ⟨u, Hu⟩ : ∃ u, Hid (u = p.early.getD j 0) := ⟨_, rfl⟩
                  obtain ⟨y, Hy⟩ : ∃ y, Hid (y = p.L j) := ⟨_, rfl⟩
                  have cj : wx.cell? ⟨gx, j, none⟩ = some (.int .i64 u) := by rw [(X.out.ext hbel).cellI hjE, HE0.out, Hu.out]
                  rw [show p.lo.getD j 0 = y from Hy.out.symm] at cy
                  have hu : 0 ≤ u ∧ u ≤ 120 := by rw [Hu.out]; exact Hin.out j (by rw [early_len]; exact hjl)
                  have hy := HLs.out j hjl
                  rw [← Hy.out] at hy
                  have hup : u + y ≤ x := by rw [Hu.out, Hy.out, Hx.out]; exact Hup.out k hkl j hlj (by rw [← Hz.out]; exact Hb.out)
                  have hw : IntKind.i64.wrap (u + y) = u + y := IntWalk.i64_in _ (by omega)
                  have hgt : ¬ x < u + y := by omega
                  have hnext : Hid (justAt p k (j+1) = (jb || (u + y == x))) := by rw [hjb.out, Hu.out, Hy.out, Hx.out]; simp only [justAt]; rw [if_pos (by rw [← Hz.out]; exact Hb.out)]; exact Lib.hid rfl
                  cases jb
                  · cases heq : (u + y == x)
                    · have Heq := Lib.hid heq
                      go_wp2_with fail
                      go_quiet (fail)
                      go_wp2_with fail
                      go_quiet (fail)
                      go_wp2_with fail
                      go_roundg (k - (j+1))
                      case rel => exact ⟨j+1, by omega, rfl, by go_num, by rw [hnext.out]; rw [Heq.out]; rfl, by first | exact ext_trans hbel (ext_drewN' _ _) | exact ext_trans (ext_trans hbel (ext_drewN' _ _)) (ext_drewN' _ _)⟩
                      case measure => have := Hj.out; omega
                    · have Heq := Lib.hid heq
                      go_wp2_with fail
                      go_quiet (fail)
                      go_wp2_with fail
                      go_quiet (fail)
                      go_wp2_with fail
                      go_roundg (k - (j+1))
                      case rel => exact ⟨j+1, by omega, rfl, by go_num, by rw [hnext.out]; rw [Heq.out]; rfl, by first | exact ext_trans hbel (ext_drewN' _ _) | exact ext_trans (ext_trans hbel (ext_drewN' _ _)) (ext_drewN' _ _)⟩
                      case measure => have := Hj.out; omega
                  · skip
                    go_wp2_with fail
                    go_quiet (fail)
                    go_wp2_with fail
                    go_quiet (fail)
                    go_wp2_with fail
                    go_roundg (k - (j+1))
                    case rel => exact ⟨j+1, by omega, rfl, by go_num, by rw [hnext.out]; rfl, by first | exact ext_trans hbel (ext_drewN' _ _) | exact ext_trans (ext_trans hbel (ext_drewN' _ _)) (ext_drewN' _ _)⟩
                    case measure => have := Hj.out; omega
              · have hjk : k = j := by omega
                subst hjk
                have hjt : jb = true := by rw [hjb.out]; exact just_all Hok.out hkl
                subst hjt
                go_wp2_with fail
                go_roundg (E0.length - (k+1))
                case rel => exact ⟨k+1, by omega, rfl, by go_num, hbel⟩
                case measure => have := Hk.out; omega
          · have Hzb := Lib.hid hzb
            go_wp2_with fail
            go_loopg [6, 7] k (fun m bb jj wx => ∃ j : Nat, j ≤ k ∧ m = k - j ∧ jj = .int .i64 j ∧ bb = .bool (justAt p k j) ∧ Below w5.heap.size w5 wx)
            case atStart => exact ⟨0, by omega, by omega, rfl, by rw [← hb0.out, hb0z, Hzb.out], hbel⟩
            case round =>
              rename World => wx
              clear ck cA rc0 rz0 rl0 B0 E1
              obtain ⟨j, hj, hgk, rfl, rfl, hbel⟩ := hrel
              have Hj := Lib.hid hgk
              clear hgk
              have B0 := A0.ext hbel
              obtain ⟨rcB0, rzB0⟩ := (B0).rules; have rlB0 := (B0).lt
              have ck : wx.cell? ⟨gx, k, none⟩ = some (.int .i64 x) := by rw [(X.out.ext hbel).cellI hlt, HE0.out, Hx.out]
              have cA : wx.cell? ⟨g2, k, none⟩ = some (.int .i64 z) := by rw [(U.out.ext hbel).cellI hka, Hz.out]; rfl
              obtain ⟨jb, hjb⟩ : ∃ b, Hid (b = justAt p k j) := ⟨_, rfl⟩
              rw [← hjb.out]
              by_cases hlj : j < k
              · have hd := div_pow_le z j hz0 (by omega)
                cases hb : bit z j
                · have hm2 := Int.emod_two_eq (z / 2 ^ j)
                  have he : (z / 2 ^ j % 2 == 0) = true := by
                    have h1 : (z / 2 ^ j % 2 == 1) = false := hb
                    simp at h1 ⊢
                    omega
                  have Hb := Lib.hid hb
                  clear hb hm2
                  go_wp2_with fail
                  go_roundg (k - (j+1))
                  case rel => exact ⟨j+1, by omega, rfl, by go_num, by rw [hjb.out, show justAt p k (j+1) = justAt p k j by simp [justAt, ← Hz.out, Hb.out]], hbel⟩
                  case measure => have := Hj.out; omega
                · have hm2 := Int.emod_two_eq (z / 2 ^ j)
                  have he : (z / 2 ^ j % 2 == 0) = false := by
                    have h1 : (z / 2 ^ j % 2 == 1) = true := hb
                    simp at h1 ⊢
                    omega
                  have Hb := Lib.hid hb
                  clear hb hm2
                  have hjE : j < E0.length := by omega
                  have hjl : j < p.lo.length := by omega
                  have hjl2 : j < l.length := by rw [← hpl.out]; exact hjl
                  obtain ⟨g1, ha1, _, hg1, _, cy⟩ := (V.out.ext hbel).at_ hjl
                  subst ha1
                  obtain ⟨u, Hu⟩ : ∃ u, Hid (u = p.early.getD j 0) := ⟨_, rfl⟩
                  obtain ⟨y, Hy⟩ : ∃ y, Hid (y = p.L j) := ⟨_, rfl⟩
                  have cj : wx.cell? ⟨gx, j, none⟩ = some (.int .i64 u) := by rw [(X.out.ext hbel).cellI hjE, HE0.out, Hu.out]
                  rw [show p.lo.getD j 0 = y from Hy.out.symm] at cy
                  have hu : 0 ≤ u ∧ u ≤ 120 := by rw [Hu.out]; exact Hin.out j (by rw [early_len]; exact hjl)
                  have hy := HLs.out j hjl
                  rw [← Hy.out] at hy
                  have hup : u + y ≤ x := by rw [Hu.out, Hy.out, Hx.out]; exact Hup.out k hkl j hlj (by rw [← Hz.out]; exact Hb.out)
                  have hw : IntKind.i64.wrap (u + y) = u + y := IntWalk.i64_in _ (by omega)
                  have hgt : ¬ x < u + y := by omega
                  have hnext : Hid (justAt p k (j+1) = (jb || (u + y == x))) := by rw [hjb.out, Hu.out, Hy.out, Hx.out]; simp only [justAt]; rw [if_pos (by rw [← Hz.out]; exact Hb.out)]; exact Lib.hid rfl
                  cases jb
                  · cases heq : (u + y == x)
                    · have Heq := Lib.hid heq
                      go_wp2_with fail
                      go_quiet (fail)
                      go_wp2_with fail
                      go_quiet (fail)
                      go_wp2_with fail
                      go_roundg (k - (j+1))
                      case rel => exact ⟨j+1, by omega, rfl, by go_num, by rw [hnext.out]; rw [Heq.out]; rfl, by first | exact ext_trans hbel (ext_drewN' _ _) | exact ext_trans (ext_trans hbel (ext_drewN' _ _)) (ext_drewN' _ _)⟩
                      case measure => have := Hj.out; omega
                    · have Heq := Lib.hid heq
                      go_wp2_with fail
                      go_quiet (fail)
                      go_wp2_with fail
                      go_quiet (fail)
                      go_wp2_with fail
                      go_roundg (k - (j+1))
                      case rel => exact ⟨j+1, by omega, rfl, by go_num, by rw [hnext.out]; rw [Heq.out]; rfl, by first | exact ext_trans hbel (ext_drewN' _ _) | exact ext_trans (ext_trans hbel (ext_drewN' _ _)) (ext_drewN' _ _)⟩
                      case measure => have := Hj.out; omega
                  · skip
                    go_wp2_with fail
                    go_quiet (fail)
                    go_wp2_with fail
                    go_quiet (fail)
                    go_wp2_with fail
                    go_roundg (k - (j+1))
                    case rel => exact ⟨j+1, by omega, rfl, by go_num, by rw [hnext.out]; rfl, by first | exact ext_trans hbel (ext_drewN' _ _) | exact ext_trans (ext_trans hbel (ext_drewN' _ _)) (ext_drewN' _ _)⟩
                    case measure => have := Hj.out; omega
              · have hjk : k = j := by omega
                subst hjk
                have hjt : jb = true := by rw [hjb.out]; exact just_all Hok.out hkl
                subst hjt
                go_wp2_with fail
                go_roundg (E0.length - (k+1))
                case rel => exact ⟨k+1, by omega, rfl, by go_num, hbel⟩
                case measure => have := Hk.out; omega
        · have hx0b : (x == 0) = false := by simp [hx0]
          have hb0z : b0 = false := by rw [← hxz, hx0b]; rfl
          have Hx0 := Lib.hid hx0
          clear hx0 hxz
          go_wp2_with fail
          go_loopg [6, 7] k (fun m bb jj wx => ∃ j : Nat, j ≤ k ∧ m = k - j ∧ jj = .int .i64 j ∧ bb = .bool (justAt p k j) ∧ Below w5.heap.size w5 wx)
          case atStart => exact ⟨0, by omega, by omega, rfl, by rw [← hb0.out, hb0z], hbel⟩
          case round =>
            rename World => wx
            clear ck cA rc0 rz0 rl0 B0 E1
            obtain ⟨j, hj, hgk, rfl, rfl, hbel⟩ := hrel
            have Hj := Lib.hid hgk
            clear hgk
            have B0 := A0.ext hbel
            obtain ⟨rcB0, rzB0⟩ := (B0).rules; have rlB0 := (B0).lt
            have ck : wx.cell? ⟨gx, k, none⟩ = some (.int .i64 x) := by rw [(X.out.ext hbel).cellI hlt, HE0.out, Hx.out]
            have cA : wx.cell? ⟨g2, k, none⟩ = some (.int .i64 z) := by rw [(U.out.ext hbel).cellI hka, Hz.out]; rfl
            obtain ⟨jb, hjb⟩ : ∃ b, Hid (b = justAt p k j) := ⟨_, rfl⟩
            rw [← hjb.out]
            by_cases hlj : j < k
            · have hd := div_pow_le z j hz0 (by omega)
              cases hb : bit z j
              · have hm2 := Int.emod_two_eq (z / 2 ^ j)
                have he : (z / 2 ^ j % 2 == 0) = true := by
                  have h1 : (z / 2 ^ j % 2 == 1) = false := hb
                  simp at h1 ⊢
                  omega
                have Hb := Lib.hid hb
                clear hb hm2
                go_wp2_with fail
                go_roundg (k - (j+1))
                case rel => exact ⟨j+1, by omega, rfl, by go_num, by rw [hjb.out, show justAt p k (j+1) = justAt p k j by simp [justAt, ← Hz.out, Hb.out]], hbel⟩
                case measure => have := Hj.out; omega
              · have hm2 := Int.emod_two_eq (z / 2 ^ j)
                have he : (z / 2 ^ j % 2 == 0) = false := by
                  have h1 : (z / 2 ^ j % 2 == 1) = true := hb
                  simp at h1 ⊢
                  omega
                have Hb := Lib.hid hb
                clear hb hm2
                have hjE : j < E0.length := by omega
                have hjl : j < p.lo.length := by omega
                have hjl2 : j < l.length := by rw [← hpl.out]; exact hjl
                obtain ⟨g1, ha1, _, hg1, _, cy⟩ := (V.out.ext hbel).at_ hjl
                subst ha1
                obtain ⟨u, Hu⟩ : ∃ u, Hid (u = p.early.getD j 0) := ⟨_, rfl⟩
                obtain ⟨y, Hy⟩ : ∃ y, Hid (y = p.L j) := ⟨_, rfl⟩
                have cj : wx.cell? ⟨gx, j, none⟩ = some (.int .i64 u) := by rw [(X.out.ext hbel).cellI hjE, HE0.out, Hu.out]
                rw [show p.lo.getD j 0 = y from Hy.out.symm] at cy
                have hu : 0 ≤ u ∧ u ≤ 120 := by rw [Hu.out]; exact Hin.out j (by rw [early_len]; exact hjl)
                have hy := HLs.out j hjl
                rw [← Hy.out] at hy
                have hup : u + y ≤ x := by rw [Hu.out, Hy.out, Hx.out]; exact Hup.out k hkl j hlj (by rw [← Hz.out]; exact Hb.out)
                have hw : IntKind.i64.wrap (u + y) = u + y := IntWalk.i64_in _ (by omega)
                have hgt : ¬ x < u + y := by omega
                have hnext : Hid (justAt p k (j+1) = (jb || (u + y == x))) := by rw [hjb.out, Hu.out, Hy.out, Hx.out]; simp only [justAt]; rw [if_pos (by rw [← Hz.out]; exact Hb.out)]; exact Lib.hid rfl
                cases jb
                · cases heq : (u + y == x)
                  · have Heq := Lib.hid heq
                    go_wp2_with fail
                    go_quiet (fail)
                    go_wp2_with fail
                    go_quiet (fail)
                    go_wp2_with fail
                    go_roundg (k - (j+1))
                    case rel => exact ⟨j+1, by omega, rfl, by go_num, by rw [hnext.out]; rw [Heq.out]; rfl, by first | exact ext_trans hbel (ext_drewN' _ _) | exact ext_trans (ext_trans hbel (ext_drewN' _ _)) (ext_drewN' _ _)⟩
                    case measure => have := Hj.out; omega
                  · have Heq := Lib.hid heq
                    go_wp2_with fail
                    go_quiet (fail)
                    go_wp2_with fail
                    go_quiet (fail)
                    go_wp2_with fail
                    go_roundg (k - (j+1))
                    case rel => exact ⟨j+1, by omega, rfl, by go_num, by rw [hnext.out]; rw [Heq.out]; rfl, by first | exact ext_trans hbel (ext_drewN' _ _) | exact ext_trans (ext_trans hbel (ext_drewN' _ _)) (ext_drewN' _ _)⟩
                    case measure => have := Hj.out; omega
                · skip
                  go_wp2_with fail
                  go_quiet (fail)
                  go_wp2_with fail
                  go_quiet (fail)
                  go_wp2_with fail
                  go_roundg (k - (j+1))
                  case rel => exact ⟨j+1, by omega, rfl, by go_num, by rw [hnext.out]; rfl, by first | exact ext_trans hbel (ext_drewN' _ _) | exact ext_trans (ext_trans hbel (ext_drewN' _ _)) (ext_drewN' _ _)⟩
                  case measure => have := Hj.out; omega
            · have hjk : k = j := by omega
              subst hjk
              have hjt : jb = true := by rw [hjb.out]; exact just_all Hok.out hkl
              subst hjt
              go_wp2_with fail
              go_roundg (E0.length - (k+1))
              case rel => exact ⟨k+1, by omega, rfl, by go_num, hbel⟩
              case measure => have := Hk.out; omega
      · have hkE : E0.length = k := by omega
        go_wp2_with fail
        go_ret
        exact ⟨rfl, E1⟩
end Go.Proofs.Ytllicgomlohffaa
