/- The walks of MostOf of impl and of spec, of LeastOf and ClosedOf. Condition: the bounds can be read. -/
import Derived.Test.YtpccfkbpnfbdaaaClosed
import Derived.Test.YtpccfkbpnfbdaaaFitsS
import Derived.Deep.Cut
namespace Go.Proofs.Ytpccfkbpnfbdaaa
open Go.RowKit
set_option linter.unusedVariables false
set_option linter.unusedSimpArgs false
/-- whether so much is said of the two points at all -/
def Pl.mostOk (p : Pl) (f t : Int) : Bool := p.fits && (inB f 0 (p.pts - 1) && (inB t 0 (p.pts - 1) && decide (p.clo f.toNat t.toNat ≠ 100000)))
def Pl.most (p : Pl) (f t : Int) : Int := if p.mostOk f t then p.clo f.toNat t.toNat else 0
def RetMost (w : World) (x : Int) (ok : Bool) : Ending → World → Prop := fun e w' => e = .returned (.tuple #[.int .i64 x, .bool ok]) ∧ Below w.heap.size w w'
theorem most_no {p : Pl} {f t : Int} (h : p.mostOk f t = false) : p.most f t = 0 := if_neg (by simp [h])
theorem most_far {p : Pl} {f t : Int} (h : p.mostOk f t = true) : p.most f t = p.clo f.toNat t.toNat := if_pos h
set_option maxRecDepth 100000 in
set_option maxHeartbeats 4000000 in
theorem impl_MostOf (p : Pl) (fi ti : Int) (vp : Value) (w : World) (hp : Bds w 0 vp p.bs) :
    Calls Try.prog 21 #[.agg #[.int .i64 p.pts, vp], .int .i64 fi, .int .i64 ti] w (RetMost w (p.most fi ti) (p.mostOk fi ti)) := by
  have HP := Lib.hid hp
  obtain ⟨a, c, rfl, hn, hc, -⟩ := hp.open
  clear hp
  go_enter Try.func21, Try.ntmps21
  go_wp2_with fail
  obtain ⟨W, hW, A0, hs, E⟩ := one_box w #[.int .i64 p.pts, .slice a p.bs.length c] 29
  rw [← hW.out]
  refine (impl_closed p _ _ (HP.out.ext E)).mono ?_
  rintro e w1 ⟨vt, ht, rfl, hG, hb1⟩
  have A0 := A0.ext hb1
  have E := ext_trans E hb1
  have HG := Lib.hid hG
  clear hG hb1
  obtain ⟨rc0, rz0⟩ := (A0).rules; have rl0 := (A0).lt
  cases hf : p.fits
  · have Hf : Hid (p.mostOk fi ti = false) := by simp [Pl.mostOk, hf]; exact Lib.hid trivial
    clear hf
    go_wp2_with fail
    go_ret2
    exact ⟨by rw [most_no Hf.out, Hf.out]; rfl, E⟩
  have hfo := fits_ok hf
  obtain ⟨q1, q2, q3, q4, q5⟩ := plok_in hfo.1
  have Hpo := Lib.hid hfo.1
  obtain ⟨n, hnn⟩ : ∃ n, Hid (n = p.n) := ⟨_, rfl⟩
  obtain ⟨D, hD⟩ : ∃ D, Hid (D = p.clo) := ⟨_, rfl⟩
  have G : Hid (TabG w1 0 n n vt ht D) := by rw [hnn.out, hD.out]; exact Lib.hid ((HG.out hf).base (Nat.zero_le _))
  have Hf : Hid (p.mostOk fi ti = (inB fi 0 (p.pts - 1) && (inB ti 0 (p.pts - 1) && decide (p.clo fi.toNat ti.toNat ≠ 100000)))) := by unfold Pl.mostOk; rw [hf, Bool.true_and]; exact Lib.hid rfl
  have Hp : Hid (p.pts = (n : Int)) := by rw [hnn.out]; exact Lib.hid q1
  have hn1 : 1 ≤ n ∧ n ≤ 6 := by rw [hnn.out]; exact ⟨q2, q3⟩
  obtain ⟨at_, ct, rfl, hct, hct2⟩ := G.out.open
  clear hf hfo q1 q2 q3 q5 HG
  rw [Hp.out] at rc0 Hf
  go_wp2_with fail
  refine (impl_has _ _ _ _ (by omega) (by omega)).mono ?_
  rintro e w2 ⟨rfl, hb2⟩
  have A0 := A0.ext hb2
  have E := ext_trans E hb2
  have G := Lib.hid (G.out.ext hb2)
  clear rc0 rz0 rl0 hb2
  obtain ⟨rc0, rz0⟩ := (A0).rules; have rl0 := (A0).lt
  rw [Hp.out] at rc0
  cases hkf : inB fi 0 ((n : Int) - 1)
  · have Hf2 : Hid (p.mostOk fi ti = false) := by rw [Hf.out, hkf]; exact Lib.hid rfl
    clear hkf
    go_wp2_with fail
    go_ret2
    exact ⟨by rw [most_no Hf2.out, Hf2.out]; rfl, E⟩
  have hkk := (inB_iff _ _ _).1 hkf
  obtain ⟨f, rfl⟩ := Int.eq_ofNat_of_zero_le hkk.1
  have hfn : f < n := by omega
  rw [hkf, Bool.true_and] at Hf
  clear hkf hkk
  go_wp2_with fail
  refine (impl_has _ _ _ _ (by omega) (by omega)).mono ?_
  rintro e w3 ⟨rfl, hb3⟩
  have A0 := A0.ext hb3
  have E := ext_trans E hb3
  have G := Lib.hid (G.out.ext hb3)
  clear rc0 rz0 rl0 hb3
  obtain ⟨rc0, rz0⟩ := (A0).rules; have rl0 := (A0).lt
  rw [Hp.out] at rc0
  cases hkt : inB ti 0 ((n : Int) - 1)
  · have Hf2 : Hid (p.mostOk (f : Int) ti = false) := by rw [Hf.out, hkt]; exact Lib.hid rfl
    clear hkt
    go_wp2_with fail
    go_ret2
    exact ⟨by rw [most_no Hf2.out, Hf2.out]; rfl, E⟩
  have hkk := (inB_iff _ _ _).1 hkt
  obtain ⟨t, rfl⟩ := Int.eq_ofNat_of_zero_le hkk.1
  have htn : t < n := by omega
  rw [hkt, Bool.true_and] at Hf
  clear hkt hkk
  obtain ⟨gd, ad, cd, hag, _, hgd, _, hOd, hcd, hcd2, hrd⟩ := G.out.head hfn
  subst hag
  have hl1 : (rowOf n (D f)).length = n := rowOf_length _ _
  obtain ⟨g1, ha1, _, hg1, _, k1⟩ := hrd.at_ (j := t) (by omega)
  subst ha1
  rw [rowOf_getD _ _ _ htn] at k1
  obtain ⟨x, Hx⟩ : ∃ x, Hid (x = D f t) := ⟨_, rfl⟩
  rw [← Hx.out] at k1
  clear hl1 hrd
  have Hf : Hid (p.mostOk (f : Int) (t : Int) = decide (x ≠ 100000)) := by rw [Hf.out, Hx.out, hD.out]; exact Lib.hid rfl
  by_cases hx : x = 100000
  · have hxe : (x == 100000) = true := by simp [hx]
    have Hf2 : Hid (p.mostOk (f : Int) (t : Int) = false) := by rw [Hf.out]; simp [hx]; exact Lib.hid trivial
    clear hx
    go_wp2_with fail
    go_ret2
    exact ⟨by rw [most_no Hf2.out, Hf2.out]; rfl, E⟩
  · have hxe : (x == 100000) = false := beq_false_of_ne hx
    have Hf2 : Hid (p.mostOk (f : Int) (t : Int) = true) := by rw [Hf.out]; simp [hx]; exact Lib.hid trivial
    have Hm : Hid (p.most (f : Int) (t : Int) = x) := by rw [most_far Hf2.out, Hx.out, hD.out]; exact Lib.hid rfl
    clear hx
    go_wp2_with fail
    go_ret2
    exact ⟨by rw [Hm.out, Hf2.out]; rfl, E⟩
set_option maxHeartbeats 2000000 in
theorem impl_LeastOf (p : Pl) (fi ti : Int) (vp : Value) (w : World) (hp : Bds w 0 vp p.bs) :
    Calls Try.prog 25 #[.agg #[.int .i64 p.pts, vp], .int .i64 fi, .int .i64 ti] w (RetMost w (-p.most ti fi) (p.mostOk ti fi)) := by
  have HP := Lib.hid hp
  obtain ⟨a, c, rfl, hn, hc, -⟩ := hp.open
  clear hp
  have hmb : -6336 ≤ p.most ti fi ∧ p.most ti fi ≤ 100000 := by
    cases hm : p.mostOk ti fi
    · rw [most_no hm]; omega
    · have hm2 := hm
      rw [most_far hm]
      simp only [Pl.mostOk, Bool.and_eq_true, inB_iff] at hm2
      have hpo := (fits_ok hm2.1).1
      have hpi := (plok_in hpo).1
      exact clo_in hpo p.n (Nat.le_refl _) _ _ (by omega) (by omega)
  go_enter Try.func25, Try.ntmps25
  go_wp2_with fail
  obtain ⟨W, hW, A0, hs, E⟩ := one_box w #[.int .i64 p.pts, .slice a p.bs.length c] 29
  rw [← hW.out]
  refine (impl_MostOf p ti fi _ _ (HP.out.ext E)).mono ?_
  rintro e w1 ⟨rfl, hb1⟩
  obtain ⟨x, Hx⟩ : ∃ x, Hid (x = p.most ti fi) := ⟨_, rfl⟩
  rw [← Hx.out] at hmb ⊢
  obtain ⟨ok, Hok⟩ : ∃ x, Hid (x = p.mostOk ti fi) := ⟨_, rfl⟩
  rw [← Hok.out]
  go_wp2_with fail
  go_ret2
  exact ⟨by rw [Hx.out, Hok.out]; rfl, ext_trans E hb1⟩
set_option maxHeartbeats 2000000 in
theorem impl_ClosedOf (p : Pl) (vp : Value) (w : World) (hp : Bds w 0 vp p.bs) :
    Calls Try.prog 23 #[.agg #[.int .i64 p.pts, vp]] w (RetClosed w p.fits p.n p.clo) := by
  have HP := Lib.hid hp
  obtain ⟨a, c, rfl, hn, hc, -⟩ := hp.open
  clear hp
  go_enter Try.func23, Try.ntmps23
  go_wp2_with fail
  obtain ⟨W, hW, A0, hs, E⟩ := one_box w #[.int .i64 p.pts, .slice a p.bs.length c] 29
  rw [← hW.out]
  have q0 := E.size
  refine (impl_closed p _ _ (HP.out.ext E)).mono ?_
  rintro e w1 ⟨vt, ht, rfl, hG, hb1⟩
  have HG := Lib.hid hG
  clear hG
  go_wp2_with fail
  go_ret2
  exact ⟨vt, ht, rfl, fun h => (HG.out h).base q0, ext_trans E hb1⟩
set_option maxRecDepth 100000 in
set_option maxHeartbeats 4000000 in
theorem spec_MostOf (p : Pl) (fi ti : Int) (vp : Value) (w : World) (hp : Bds w 0 vp p.bs) :
    Calls Try.prog 22 #[.agg #[.int .i64 p.pts, vp], .int .i64 fi, .int .i64 ti] w (RetMost w (p.most fi ti) (p.mostOk fi ti)) := by
  have HP := Lib.hid hp
  obtain ⟨a, c, rfl, hn, hc, -⟩ := hp.open
  clear hp
  go_enter Try.func22, Try.ntmps22
  go_wp2_with fail
  obtain ⟨W, hW, A0, hs, E⟩ := one_box w #[.int .i64 p.pts, .slice a p.bs.length c] 29
  rw [← hW.out]
  refine (spec_FitsOk p _ _ (HP.out.ext E)).mono ?_
  rintro e w1 ⟨rfl, hb1⟩
  have A0 := A0.ext hb1
  have E := ext_trans E hb1
  clear hb1
  obtain ⟨rc0, rz0⟩ := (A0).rules; have rl0 := (A0).lt
  cases hf : p.fits
  · have Hf : Hid (p.mostOk fi ti = false) := by simp [Pl.mostOk, hf]; exact Lib.hid trivial
    clear hf
    go_wp2_with fail
    go_ret2
    exact ⟨by rw [most_no Hf.out, Hf.out]; rfl, E⟩
  have hfo := fits_ok hf
  obtain ⟨q1, q2, q3, q4, q5⟩ := plok_in hfo.1
  obtain ⟨n, hnn⟩ : ∃ n, Hid (n = p.n) := ⟨_, rfl⟩
  obtain ⟨D, hD⟩ : ∃ D, Hid (D = upT (tab0 p.bs) n) := ⟨_, rfl⟩
  have hDc : Hid (p.clo = D) := by rw [hD.out, hnn.out]; exact Lib.hid rfl
  have hfar : Hid (∀ i j, D i j ≤ 100000) := fun i j => by rw [hD.out]; exact Int.le_trans (upT_le _ _ _ _) (tab0_le p.bs i j)
  have Q5 : Hid (BdsIn n (-2000) 2000 p.bs) := by rw [hnn.out]; exact Lib.hid (q5.wide (by decide) (by decide))
  have Hf : Hid (p.mostOk fi ti = (inB fi 0 (p.pts - 1) && (inB ti 0 (p.pts - 1) && decide (p.clo fi.toNat ti.toNat ≠ 100000)))) := by unfold Pl.mostOk; rw [hf, Bool.true_and]; exact Lib.hid rfl
  have Hp : Hid (p.pts = (n : Int)) := by rw [hnn.out]; exact Lib.hid q1
  have hn1 : 1 ≤ n ∧ n ≤ 6 := by rw [hnn.out]; exact ⟨q2, q3⟩
  clear hf hfo q1 q2 q3 q5
  rw [Hp.out] at rc0 Hf
  go_wp2_with fail
  refine (spec_l1In _ _ _ _).mono ?_
  rintro e w2 ⟨rfl, rfl⟩
  cases hkf : inB fi 0 ((n : Int) - 1)
  · have Hf2 : Hid (p.mostOk fi ti = false) := by rw [Hf.out, hkf]; exact Lib.hid rfl
    clear hkf
    go_wp2_with fail
    go_ret2
    exact ⟨by rw [most_no Hf2.out, Hf2.out]; rfl, E⟩
  have hkk := (inB_iff _ _ _).1 hkf
  obtain ⟨f, rfl⟩ := Int.eq_ofNat_of_zero_le hkk.1
  have hfn : f < n := by omega
  rw [hkf, Bool.true_and] at Hf
  clear hkf hkk
  go_wp2_with fail
  refine (spec_l1In _ _ _ _).mono ?_
  rintro e w3 ⟨rfl, rfl⟩
  cases hkt : inB ti 0 ((n : Int) - 1)
  · have Hf2 : Hid (p.mostOk (f : Int) ti = false) := by rw [Hf.out, hkt]; exact Lib.hid rfl
    clear hkt
    go_wp2_with fail
    go_ret2
    exact ⟨by rw [most_no Hf2.out, Hf2.out]; rfl, E⟩
  have hkk := (inB_iff _ _ _).1 hkt
  obtain ⟨t, rfl⟩ := Int.eq_ofNat_of_zero_le hkk.1
  have htn : t < n := by omega
  rw [hkt, Bool.true_and] at Hf
  clear hkt hkk
  obtain ⟨x, Hx⟩ : ∃ x, Hid (x = D f t) := ⟨_, rfl⟩
  have Hf : Hid (p.mostOk (f : Int) (t : Int) = decide (x ≠ 100000)) := by rw [Hf.out, Hx.out, hDc.out]; exact Lib.hid rfl
  have hxf : x ≤ 100000 := by rw [Hx.out]; exact hfar.out f t
  go_wp2_with fail
  refine (spec_l2Closed n _ p.bs _ (HP.out.ext E) hn1.2 Q5.out (by omega)).mono ?_
  rintro e w4 ⟨vt, ht, rfl, hG, hb4⟩
  obtain ⟨at_, ct, rfl, hct, hct2⟩ := hG.open
  have A0 := A0.ext hb4
  have E := ext_trans E hb4
  have G := Lib.hid hG
  rw [← hD.out] at G
  clear rc0 rz0 rl0 hb4 hG
  obtain ⟨rc0, rz0⟩ := (A0).rules; have rl0 := (A0).lt
  rw [Hp.out] at rc0
  obtain ⟨gd, ad, cd, hag, _, hgd, _, hOd, hcd, hcd2, hrd⟩ := G.out.head hfn
  subst hag
  have hl1 : (rowOf n (D f)).length = n := rowOf_length _ _
  obtain ⟨g1, ha1, _, hg1, _, k1⟩ := hrd.at_ (j := t) (by omega)
  subst ha1
  rw [rowOf_getD _ _ _ htn] at k1
  rw [← Hx.out] at k1
  clear hl1 hrd
  by_cases hx : x = 100000
  · have hxe : decide (100000 ≤ x) = true := decide_eq_true (by omega)
    have Hf2 : Hid (p.mostOk (f : Int) (t : Int) = false) := by rw [Hf.out]; simp [hx]; exact Lib.hid trivial
    clear hx
    go_wp2_with fail
    go_ret2
    exact ⟨by rw [most_no Hf2.out, Hf2.out]; rfl, E⟩
  · have hxe : decide (100000 ≤ x) = false := decide_eq_false (by omega)
    have Hf2 : Hid (p.mostOk (f : Int) (t : Int) = true) := by rw [Hf.out]; simp [hx]; exact Lib.hid trivial
    have Hm : Hid (p.most (f : Int) (t : Int) = x) := by rw [most_far Hf2.out, Hx.out, ← hDc.out]; exact Lib.hid rfl
    clear hx
    go_wp2_with fail
    refine (spec_l2Closed n _ p.bs _ (HP.out.ext E) hn1.2 Q5.out (by omega)).mono ?_
    rintro e w5 ⟨vt, ht, rfl, hG, hb5⟩
    obtain ⟨at_, ct, rfl, hct, hct2⟩ := hG.open
    have E := ext_trans E hb5
    have G := Lib.hid hG
    rw [← hD.out] at G
    clear rc0 rz0 rl0 hb5 hG k1
    obtain ⟨gd, ad, cd, hag, _, hgd, _, hOd, hcd, hcd2, hrd⟩ := G.out.head hfn
    subst hag
    have hl1 : (rowOf n (D f)).length = n := rowOf_length _ _
    obtain ⟨g1, ha1, _, hg1, _, k1⟩ := hrd.at_ (j := t) (by omega)
    subst ha1
    rw [rowOf_getD _ _ _ htn] at k1
    rw [← Hx.out] at k1
    clear hl1 hrd
    go_wp2_with fail
    go_ret2
    exact ⟨by rw [Hm.out, Hf2.out]; rfl, E⟩
end Go.Proofs.Ytpccfkbpnfbdaaa
