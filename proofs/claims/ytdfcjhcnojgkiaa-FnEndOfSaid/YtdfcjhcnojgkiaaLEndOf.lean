/- The walk of FnEndOf: it returns true, whatever code came in. Condition: the code can be read. -/
import Derived.Test.YtdfcjhcnojgkiaaBegun
import Derived.Test.YtdfcjhcnojgkiaaBegMath
import Derived.Test.YtdfcjhcnojgkiaaLawInts
import Derived.Test.YtdfcjhcnojgkiaaSame
namespace Go.Proofs.Ytdfcjhcnojgkiaa
open Go.RowKit
set_option linter.unusedVariables false
set_option linter.unusedSimpArgs false
theorem sumUp_in {L : Nat → Int} : ∀ k, (∀ j, j < k → 1 ≤ L j ∧ L j ≤ 20) → 0 ≤ sumUp L k ∧ sumUp L k ≤ 20 * k
  | 0, _ => by unfold sumUp; omega
  | k+1, h => by
    have ih := sumUp_in k (fun j hj => h j (by omega))
    have := h k (by omega)
    show 0 ≤ sumUp L k + L k ∧ sumUp L k + L k ≤ _
    omega
set_option maxRecDepth 100000 in
set_option maxHeartbeats 8000000 in
theorem walk_EndOf (a : Option Addr) (n cap : Nat) (w : World) (h : Byt w w.heap.size a n cap) :
    Calls Try.prog 8 #[.slice a n cap] w fun e w' => e = .returned (.bool true) ∧ Below w.heap.size w w' := by
  have H := Lib.hid h
  obtain ⟨hncap, hcap, -⟩ := id h
  clear h
  by_cases hbig : 1048576 < n
  · go_enter Try.func8, Try.ntmps8
    go_wp2_with fail
    go_ret
    exact ⟨rfl, ext_refl _⟩
  go_enter Try.func8, Try.ntmps8
  go_wp2_with fail
  refine (spec_DrawEndOf a n cap w H.out).mono ?_
  rintro e w1 ⟨v1, v2, v3, l, t, b, rfl, hV, hU, hB, hl8, ht8, hb8, hbd, hb1⟩
  have E := hb1
  clear hb1
  obtain ⟨a1, c1, rfl, -⟩ := hV.open
  have V := Lib.hid hV
  clear hV
  obtain ⟨a2, c2, rfl, -⟩ := hU.open
  have U := Lib.hid hU
  clear hU
  obtain ⟨a3, c3, rfl, -⟩ := hB.open
  have B := Lib.hid hB
  clear hB
  clear hbd
  go_upto_region 4 with fail
  obtain ⟨w2, hw2, A0, hs2, hb2⟩ := one_box w1 #[.slice a1 l.length c1, .slice a2 t.length c2] 27
  rw [← hw2.out]
  have V := Lib.hid (V.out.ext hb2)
  have U := Lib.hid (U.out.ext hb2)
  have B := Lib.hid (B.out.ext hb2)
  have E := ext_trans E hb2
  clear hb2
  obtain ⟨p, hp⟩ : ∃ p : Pj, Hid (p = ⟨l, t⟩) := ⟨_, rfl⟩
  have hpl : Hid (p.lo = l) := by rw [hp.out]; exact Lib.hid rfl
  have hpt : Hid (p.af = t) := by rw [hp.out]; exact Lib.hid rfl
  have V : Hid (Ints w2 w.heap.size (.slice a1 l.length c1) p.lo) := by rw [hpl.out]; exact V
  have U : Hid (Ints w2 w.heap.size (.slice a2 t.length c2) p.af) := by rw [hpt.out]; exact U
  obtain ⟨rcA0, rzA0⟩ := (A0).rules; have rlA0 := (A0).lt
  go_wp2_with fail
  obtain ⟨en, hen⟩ : ∃ en, Hid (en = p.endOf b) := ⟨_, rfl⟩
  refine (impl_EndOf p _ _ _ b _ (V.out.base (Nat.zero_le _)) (U.out.base (Nat.zero_le _)) (B.out.base (Nat.zero_le _))).mono ?_
  rintro e w3 ⟨rfl, hb3⟩
  clear rcA0 rzA0 rlA0
  have A0 := A0.ext hb3
  have V := Lib.hid (V.out.ext hb3)
  have U := Lib.hid (U.out.ext hb3)
  have B := Lib.hid (B.out.ext hb3)
  have E := ext_trans E hb3
  clear hb3
  rw [← hen.out]
  obtain ⟨rcA0, rzA0⟩ := (A0).rules; have rlA0 := (A0).lt
  go_wp2_with fail
  refine (spec_EndOf p _ _ _ b _ (V.out.base (Nat.zero_le _)) (U.out.base (Nat.zero_le _)) (B.out.base (Nat.zero_le _))).mono ?_
  rintro e w4 ⟨rfl, hb4⟩
  clear rcA0 rzA0 rlA0
  have A0 := A0.ext hb4
  have V := Lib.hid (V.out.ext hb4)
  have U := Lib.hid (U.out.ext hb4)
  have B := Lib.hid (B.out.ext hb4)
  have E := ext_trans E hb4
  clear hb4
  rw [← hen.out]
  have hoo : (en != en) = false := by simp
  obtain ⟨rcA0, rzA0⟩ := (A0).rules; have rlA0 := (A0).lt
  cases hf : p.fit b
  · have hz1 : en = -1 := by rw [hen.out]; exact if_neg (by rw [hf]; simp)
    clear hf
    subst hz1
    go_wp2_with fail
    refine (laws_alive _).mono ?_
    rintro e w5 ⟨rfl, hb5⟩
    clear rcA0 rzA0 rlA0
    have A0 := A0.ext hb5
    have V := Lib.hid (V.out.ext hb5)
    have U := Lib.hid (U.out.ext hb5)
    have B := Lib.hid (B.out.ext hb5)
    have E := ext_trans E hb5
    clear hb5
    go_wp2_with fail
    go_ret
    exact ⟨rfl, E⟩
  have HF := Lib.hid hf
  obtain ⟨hpo, hln, hlr⟩ := fit_in hf
  have Hlr := Lib.hid hlr; have HLs := Lib.hid (ok_upto hpo).2.2.1
  have hl6 : l.length ≤ 6 := by rw [← hpl.out]; exact (ok_upto hpo).1
  have hen0 : 0 ≤ en ∧ en ≤ 10000 := by
    rw [hen.out, show p.endOf b = endUp p.L (lF b) p.lo.length from if_pos hf]
    refine ⟨endUp_pos _ _ _, endUp_le (by decide) fun i hi => ?_⟩
    have h1 := hlr i (by omega)
    have h2 := (ok_upto hpo).2.2.1 i hi
    have e : lF b i = b.getD i 0 := rfl
    omega
  have hnz : ¬ en < 0 := by omega
  clear hf hpo hln hlr
  clear rcA0 rzA0 rlA0
  obtain ⟨rcA0, rzA0⟩ := (A0).rules; have rlA0 := (A0).lt
  go_wp2_with fail
  clear rcA0 rzA0 rlA0
  go_loopg [6, 7] l.length (fun m ss kk wr => ∃ k : Nat, k ≤ l.length ∧ m = l.length - k ∧ kk = .int .i64 k ∧ ss = .int .i64 (sumUp p.L k) ∧ Below w4.heap.size w4 wr)
  case atStart => exact ⟨0, by omega, by omega, rfl, rfl, ext_refl _⟩
  case round =>
    rename World => wr
    obtain ⟨k, hk, hgk, rfl, rfl, hb⟩ := hrel
    have Hk := Lib.hid hgk
    clear hgk
    have A1 := A0.ext hb
    have E1 := ext_trans E hb
    obtain ⟨rc0, rz0⟩ := (A1).rules; have rl0 := (A1).lt
    have hsu := sumUp_in (L := p.L) k (fun j hj => HLs.out j (by rw [hpl.out]; omega))
    obtain ⟨s, Hs⟩ : ∃ s, Hid (s = sumUp p.L k) := ⟨_, rfl⟩
    rw [← Hs.out] at hsu ⊢
    by_cases hlt : k < l.length
    · have hkl : k < p.lo.length := by rw [hpl.out]; exact hlt
      obtain ⟨g1, ha1, _, hg1, _, cy⟩ := (V.out.ext hb).at_ hkl
      subst ha1
      obtain ⟨y, Hy⟩ : ∃ y, Hid (y = p.L k) := ⟨_, rfl⟩
      have hy := HLs.out k hkl
      rw [show p.lo.getD k 0 = y from Hy.out.symm] at cy
      rw [← Hy.out] at hy
      have hnx : Hid (sumUp p.L (k+1) = s + y) := by rw [Hs.out, Hy.out]; exact Lib.hid rfl
      have hw : IntKind.i64.wrap (s + y) = s + y := IntWalk.i64_in _ (by omega)
      clear hkl
      go_wp2_with fail
      go_roundg (l.length - (k+1))
      case rel => exact ⟨k+1, by omega, rfl, by go_num, by rw [hnx.out], hb⟩
      case measure => have := Hk.out; omega
    · have hkn : k = l.length := by omega
      have hsw : Hid (s = sumUp p.L p.lo.length) := by rw [Hs.out, hkn, hpl.out]; exact Lib.hid rfl
      clear hkn
      go_wp2_with fail
      clear rc0 rz0 rl0
      have hbk := hb
      go_loopg [8] 9 (fun m hh wx => ∃ h : Nat, 1 ≤ h ∧ h ≤ 4 ∧ m = 10 - h ∧ hh = .int .i64 h ∧ Below wr.heap.size wr wx)
      case atStart => exact ⟨1, by omega, by omega, by omega, rfl, ext_refl _⟩
      case round =>
        rename World => wx
        obtain ⟨h, h1, h4, hgk2, rfl, hbx⟩ := hrel
        have Hh := Lib.hid hgk2
        clear hgk2
        have hb := ext_trans hbk hbx
        have A2 := A0.ext hb
        have E2 := ext_trans E hb
        obtain ⟨rc0, rz0⟩ := (A2).rules; have rl0 := (A2).lt
        by_cases h3 : h ≤ 3
        · have h3i : (h : Int) ≤ 3 := by omega
          go_wp2_with fail
          refine (impl_BeginsOk p _ _ _ h b _ ((V.out.ext hb).base (Nat.zero_le _)) ((U.out.ext hb).base (Nat.zero_le _)) ((B.out.ext hb).base (Nat.zero_le _))).mono ?_
          rintro e w9 ⟨rfl, hb9⟩
          have hbx := ext_trans hbx hb9
          have hb := ext_trans hb hb9
          have A2 := A2.ext hb9
          clear rc0 rz0 rl0 hb9 E2
          obtain ⟨rc0, rz0⟩ := (A2).rules; have rl0 := (A2).lt
          cases hbo : p.beginsOk h b
          · clear hbo
            go_wp2_with fail
            go_roundg (10 - (h+1))
            case rel => exact ⟨h+1, by omega, by omega, rfl, by go_num, hbx⟩
            case measure => have := Hh.out; omega
          · have hle : Hid (p.lenOf ≤ en) := by rw [hen.out]; exact Lib.hid (end_len hbo)
            have hwk : s ≤ (h : Int) * en := by rw [hsw.out, hen.out]; exact end_work hbo
            clear hbo
            have hm : (h : Int) * en ≤ 40000 := by
              have : (h : Int) * en ≤ 4 * 10000 := Int.mul_le_mul (by omega) hen0.2 hen0.1 (by omega)
              omega
            have hm0 : 0 ≤ (h : Int) * en := Int.mul_nonneg (by omega) hen0.1
            have hwm : IntKind.i64.wrap ((h : Int) * en) = (h : Int) * en := IntWalk.i64_in _ (by omega)
            go_wp2_with fail
            refine (impl_LengthOf p _ _ _ ((V.out.ext hb).base (Nat.zero_le _)) ((U.out.ext hb).base (Nat.zero_le _))).mono ?_
            rintro e w10 ⟨rfl, hb10⟩
            have hbx := ext_trans hbx hb10
            obtain ⟨ln, hln⟩ : ∃ ln, Hid (ln = p.lenOf) := ⟨_, rfl⟩
            rw [← hln.out] at hle ⊢
            have hle2 : ¬ en < ln := by have := hle.out; omega
            obtain ⟨pr, hpr⟩ : ∃ pr, Hid (pr = (h : Int) * en) := ⟨_, rfl⟩
            have hd2 : decide ((h : Int) * en < s) = false := decide_eq_false (by omega)
            clear rc0 rz0 rl0 hb10 hb A2
            go_wp2_with fail
            go_roundg (10 - (h+1))
            case rel => exact ⟨h+1, by omega, by omega, rfl, by go_num, hbx⟩
            case measure => have := Hh.out; omega
        · have h3i : ¬ ((h : Int) ≤ 3) := by omega
          go_wp2_with fail
          refine (laws_alive _).mono ?_
          rintro e w12 ⟨rfl, hb12⟩
          go_wp2_with fail
          go_ret
          exact ⟨rfl, ext_trans E2 hb12⟩
end Go.Proofs.Ytdfcjhcnojgkiaa
