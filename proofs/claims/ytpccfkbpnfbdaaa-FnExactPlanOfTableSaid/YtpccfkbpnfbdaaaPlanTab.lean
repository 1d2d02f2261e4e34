/- The walk of PlanOfTable of impl. Condition: the bounds can be read. -/
import Derived.Test.YtpccfkbpnfbdaaaFromTab
namespace Go.Proofs.Ytpccfkbpnfbdaaa
open Go.RowKit
set_option linter.unusedVariables false
set_option linter.unusedSimpArgs false
theorem call_PlanOfTable1 (args : Array Value) (w : World) : (callFunc 59 args).run Try.prog w = .ok (.enter 59 args) w := by go_simp
set_option maxHeartbeats 1000000 in
theorem impl_PlanOfTable1 (n : Nat) (D : Tbl) (v : Value) (hs : List Value) (g : Nat) (f t : Nat) (w : World) (hB : Box w g 67 #[v]) (hG : TabG w 0 n n v hs D) (hfn : f < n) (htn : t < n) (hn : n ≤ 6) :
    Calls Try.prog 59 #[.int .i64 f, .int .i64 t, .pointer (some ⟨g, 0, none⟩)] w fun e w' => e = .returned (.int .i64 (D f t)) ∧ Below w.heap.size w w' := by
  have G := Lib.hid hG
  obtain ⟨at_, ct, rfl, hct, hct2⟩ := hG.open
  clear hG
  obtain ⟨gd, ad, cd, hag, _, hgd, _, hOd, hcd, hcd2, hrd⟩ := G.out.head hfn
  subst hag
  have hl1 : (rowOf n (D f)).length = n := rowOf_length _ _
  obtain ⟨g1, ha1, _, hg1, _, k1⟩ := hrd.at_ (j := t) (by omega)
  subst ha1
  rw [rowOf_getD _ _ _ htn] at k1
  obtain ⟨x, Hx⟩ : ∃ x, Hid (x = D f t) := ⟨_, rfl⟩
  rw [← Hx.out] at k1
  clear hl1 hrd
  go_enter Try.func59, Try.ntmps59
  obtain ⟨rc1, rz1⟩ := (hB).rules; have rl1 := (hB).lt
  go_wp2_with fail
  go_ret
  exact ⟨by rw [Hx.out]; rfl, ext_refl _⟩
def Pl.tblOk (p : Pl) : Bool := (p.fits && decide (p.pts ≤ 4)) && (Pl.ofTab p.n p.clo).ok
def Pl.tbl (p : Pl) : Pl := if p.tblOk then Pl.ofTab p.n p.clo else Pl.zero
theorem tbl_len2 (p : Pl) : p.tbl.bs.length ≤ 2000000 := by
  unfold Pl.tbl
  split
  · rename_i h
    have h1 : (Pl.ofTab p.n p.clo).ok = true := by unfold Pl.tblOk at h; exact (Bool.and_eq_true _ _ ▸ h).2
    simp only [Pl.ok, Bool.and_eq_true, decide_eq_true_eq] at h1
    have := h1.2.1
    omega
  · simp [Pl.zero]
/-- what closed returns: a row always -/
def RetClosedS (w : World) (ok : Bool) (n : Nat) (T : Tbl) : Ending → World → Prop := fun e w' => ∃ a k c hs, e = .returned (.tuple #[.slice a k c, .bool ok]) ∧ (ok = true → TabG w' w.heap.size n n (.slice a k c) hs T) ∧ Below w.heap.size w w'
set_option maxHeartbeats 2000000 in
theorem impl_closedS (p : Pl) (bs : Value) (w : World) (hv : Bds w 0 bs p.bs) :
    Calls Try.prog 47 #[.agg #[.int .i64 p.pts, bs]] w (RetClosedS w p.fits p.n p.clo) := by
  have V := Lib.hid hv
  obtain ⟨a, c, rfl, hn, hc, -⟩ := hv.open
  clear hv
  go_enter Try.func47, Try.ntmps47
  go_wp2_with fail
  obtain ⟨W, hW, A0, hs, E⟩ := one_box w #[.int .i64 p.pts, .slice a p.bs.length c] 29
  rw [← hW.out]
  refine (impl_PlanOk p _ _ (V.out.ext E)).mono ?_
  rintro e w1 ⟨rfl, hb1⟩
  have A0 := A0.ext hb1
  have E := ext_trans E hb1
  obtain ⟨rc0, rz0⟩ := (A0).rules; have rl0 := (A0).lt
  cases hok : p.ok
  · have Hf : Hid (p.fits = false) := by rw [Pl.fits, hok]; exact Lib.hid rfl
    clear hok
    go_wp2_with fail
    go_ret2
    exact ⟨_, _, _, [], (by rw [Hf.out]; rfl), (fun h => by rw [Hf.out] at h; cases h), E⟩
  · have Hok := Lib.hid hok
    obtain ⟨h1, h2, h3, h4, h5⟩ := plok_in hok
    have H5 := Lib.hid h5
    have H1 := Lib.hid h1
    have hfit : Hid (p.fits = fitB (ipAll p.n p.tab p.n) p.n) := by rw [Pl.fits, hok, Bool.true_and]; exact Lib.hid (tab_ip p.bs).symm
    clear hok h1 h5
    rw [H1.out]
    rw [H1.out] at rc0
    go_wp2_with fail
    refine (impl_start p.n _ p.bs _ (V.out.ext E) h3 (H5.out.wide (by decide) (by decide)) (by omega)).mono ?_
    rintro e w2 ⟨O, b, rfl, hO, hP, hb2⟩
    have q := E.size
    have E := ext_trans E hb2
    have P := Lib.hid hP
    clear hP hb2 rc0 rz0 rl0 A0
    go_wp2_with fail
    refine (impl_close p.n O b p.tab _ P.out h3 (fun i j _ _ => by have := tab0_in H5.out (by decide) i j; exact ⟨by show -2000 ≤ tab0 p.bs i j; omega, this.2⟩)).mono ?_
    rintro e w3 ⟨rfl, hP, hb3⟩
    have E := E.trans (hb3.mono (by omega))
    have P := Lib.hid hP
    clear hP hb3
    rw [← hfit.out]
    cases hf : p.fits
    · go_wp2_with fail
      go_ret2
      exact ⟨_, _, _, [], (by rw [hf]; rfl), (fun h => by rw [hf] at h; cases h), E⟩
    · have hF := fits_ok hf
      have HF := Lib.hid hF
      have HFf := Lib.hid hf
      clear hf hF
      go_wp2_with fail
      go_ret2
      exact ⟨_, _, _, _, (by rw [HFf.out]; rfl), fun _ => (P.out.congr (fun i j hi hj => ip_fits (fun i _ => tab0_diag p.bs i) HF.out.2 i j hi hj)).asG.base (by omega), E⟩
set_option maxRecDepth 100000 in
set_option maxHeartbeats 4000000 in
theorem impl_PlanOfTable (p : Pl) (vp : Value) (w : World) (hp : Bds w 0 vp p.bs) :
    Calls Try.prog 28 #[.agg #[.int .i64 p.pts, vp]] w (RetPlanB w p.tbl p.tblOk) := by
  have HP := Lib.hid hp
  obtain ⟨a, c, rfl, hn, hc, -⟩ := hp.open
  clear hp
  go_enter Try.func28, Try.ntmps28
  go_wp2_with fail
  obtain ⟨W, hW, A0, R, hs, E⟩ := two_boxes w #[.int .i64 p.pts, .slice a p.bs.length c] #[.int .i64 0, .slice none 0 0] 29 29
  rw [← hW.out]
  have q0 := E.size
  refine (impl_closedS p _ _ (HP.out.ext E)).mono ?_
  rintro e w1 ⟨at_, kt, ct, ht, rfl, hG, hb1⟩
  have A0 := A0.ext hb1
  have R := R.ext hb1
  have E := ext_trans E hb1
  have q1 := hb1.size
  have HG := Lib.hid hG
  clear hG hb1
  cases hf : p.fits
  · have Hf : Hid (p.tblOk = false) := by simp [Pl.tblOk, hf]; exact Lib.hid trivial
    have Hz : Hid (p.tbl = Pl.zero) := Lib.hid (if_neg (by rw [Hf.out]; simp))
    clear hf
    obtain ⟨rc2, rz2⟩ := (R).rules; have rl2 := (R).lt
    go_wp2_with fail
    refine bodyPost_ret (v := .tuple #[.agg #[.int .i64 0, .slice none 0 0], .bool false]) (by simp [results, Try.results28, go_sem, *]) rfl ?_
    rw [Hf.out, Hz.out]
    exact ⟨_, rfl, Bds.nil _ _, ext_alloc (ext_set (ext_set E (by dsimp only; omega) _) (by dsimp only; omega) _) _⟩
  have hfo := fits_ok hf
  obtain ⟨q1', q2, q3, q4, q5⟩ := plok_in hfo.1
  obtain ⟨n, hnn⟩ : ∃ n, Hid (n = p.n) := ⟨_, rfl⟩
  obtain ⟨D, hD⟩ : ∃ D, Hid (D = p.clo) := ⟨_, rfl⟩
  have G : Hid (TabG w1 0 n n (.slice at_ kt ct) ht D) := by rw [hnn.out, hD.out]; exact Lib.hid ((HG.out hf).base (Nat.zero_le _))
  have Hf : Hid (p.tblOk = (decide (p.pts ≤ 4) && (Pl.ofTab n D).ok)) := by unfold Pl.tblOk; rw [hf, Bool.true_and, hnn.out, hD.out]; exact Lib.hid rfl
  have Hp : Hid (p.pts = (n : Int)) := by rw [hnn.out]; exact Lib.hid q1'
  have hn1 : 1 ≤ n ∧ n ≤ 6 := by rw [hnn.out]; exact ⟨q2, q3⟩
  obtain ⟨at2, ct2, he2, hct, hct2⟩ := G.out.open
  have hkn : n = kt := by cases he2; rfl
  subst hkn
  clear he2
  clear hf hfo q1' q2 q3 q5 HG
  rw [Hp.out] at A0
  by_cases h4 : 4 < n
  · have Hz0 : Hid (p.tblOk = false) := by rw [Hf.out, Hp.out, decide_eq_false (by omega)]; exact Lib.hid rfl
    have Hz : Hid (p.tbl = Pl.zero) := Lib.hid (if_neg (by rw [Hz0.out]; simp))
    obtain ⟨rc0, rz0⟩ := (A0).rules; have rl0 := (A0).lt
    obtain ⟨rc2, rz2⟩ := (R).rules; have rl2 := (R).lt
    go_wp2_with fail
    refine bodyPost_ret (v := .tuple #[.agg #[.int .i64 0, .slice none 0 0], .bool false]) (by simp [results, Try.results28, go_sem, *]) rfl ?_
    rw [Hz0.out, Hz.out]
    exact ⟨_, rfl, Bds.nil _ _, ext_alloc (ext_set (ext_set E (by dsimp only; omega) _) (by dsimp only; omega) _) _⟩
  have Hk : Hid (p.tblOk = (Pl.ofTab n D).ok) := by rw [Hf.out, Hp.out, decide_eq_true (by omega), Bool.true_and]; exact Lib.hid rfl
  have Hk2 : Hid (p.tbl = (Pl.ofTab n D).told) := by unfold Pl.tbl Pl.told; rw [Hk.out, hnn.out, hD.out]; exact Lib.hid rfl
  clear Hf
  obtain ⟨rc0, rz0⟩ := (A0).rules; have rl0 := (A0).lt
  go_upto_region 2 with fail
  obtain ⟨w2, hw2, T0, hs2, E2⟩ := one_box w1 #[.slice at_ n ct] 67
  rw [← hw2.out]
  have A0 := A0.ext E2
  have R := R.ext E2
  have G := Lib.hid (G.out.ext E2)
  have E := ext_trans E E2
  have q2 := E2.size
  clear rc0 rz0 rl0 E2
  obtain ⟨rc0, rz0⟩ := (A0).rules; have rl0 := (A0).lt
  go_wp2_with fail
  refine (impl_fromTable n D 59 #[.pointer (some ⟨w1.heap.size, 0, none⟩)] (fun w' => Box w' w1.heap.size 67 #[.slice at_ n ct] ∧ TabG w' 0 n n (.slice at_ n ct) ht D)
    (fun u1 u2 h1 h2 => ⟨h1.1.ext h2, h1.2.ext h2⟩) (fun f t u hf ht h => impl_PlanOfTable1 n D _ _ w1.heap.size f t u h.1 h.2 hf ht hn1.2) call_PlanOfTable1 _ ⟨T0, G.out⟩ hn1.2).mono ?_
  rintro e w4 ⟨v4, rfl, hv4, hb4⟩
  obtain ⟨P, hP⟩ : ∃ P, Hid (P = (Pl.ofTab n D).told) := ⟨_, rfl⟩
  obtain ⟨k, hk⟩ : ∃ k, Hid (k = (Pl.ofTab n D).ok) := ⟨_, rfl⟩
  rw [← hP.out] at hv4 ⊢
  rw [← hk.out]
  obtain ⟨a4, c4, rfl, -⟩ := hv4.open
  have V4 := Lib.hid hv4
  have R := R.ext hb4
  have q4 := hb4.size
  have E := ext_trans E hb4
  clear hv4 hb4 rc0 rz0 rl0 A0
  obtain ⟨rc2, rz2⟩ := (R).rules; have rl2 := (R).lt
  go_wp2_with fail
  refine bodyPost_ret (v := .tuple #[.agg #[.int .i64 P.pts, .slice a4 P.bs.length c4], .bool k]) (by simp [results, Try.results28, go_sem, *]) rfl ?_
  rw [Hk.out, Hk2.out, ← hP.out, ← hk.out]
  refine ⟨_, rfl, ?_, ext_set (ext_set E (by dsimp only; omega) _) (by dsimp only; omega) _⟩
  have h1 := V4.out.low (p := ⟨w.heap.size + 1, 0, none⟩) (by dsimp only; omega) (.int .i64 P.pts)
  have h2 := h1.low (p := ⟨w.heap.size + 1, 1, none⟩) (by dsimp only; omega) (.slice a4 P.bs.length c4)
  exact h2.base (by omega)
end Go.Proofs.Ytpccfkbpnfbdaaa
