/- The walk of CommonOf of impl. Condition: the bounds can be read. -/
import Derived.Test.YtpccfkbpnfbdaaaPlanTab
namespace Go.Proofs.Ytpccfkbpnfbdaaa
open Go.RowKit
set_option linter.unusedVariables false
set_option linter.unusedSimpArgs false
/-- the greater number of two tables -/
def maxT (D E : Tbl) : Tbl := fun i j => max (D i j) (E i j)
theorem ext_drewNc (w : World) (n : Nat) : Below w.heap.size w (w.drewN n) := ⟨rfl, rfl, rfl, Nat.le_refl _, fun _ _ => rfl⟩
theorem call_CommonOf1 (args : Array Value) (w : World) : (callFunc 63 args).run Try.prog w = .ok (.enter 63 args) w := by go_simp
set_option maxHeartbeats 2000000 in
theorem impl_CommonOf1 (n : Nat) (D U : Tbl) (v v' : Value) (hs hs' : List Value) (g g' : Nat) (f t : Nat) (w : World) (hB : Box w g 67 #[v]) (hB' : Box w g' 67 #[v']) (hG : TabG w 0 n n v hs D) (hU : TabG w 0 n n v' hs' U) (hfn : f < n) (htn : t < n) (hn : n ≤ 6) :
    Calls Try.prog 63 #[.int .i64 f, .int .i64 t, .pointer (some ⟨g, 0, none⟩), .pointer (some ⟨g', 0, none⟩)] w fun e w' => e = .returned (.int .i64 (maxT D U f t)) ∧ Below w.heap.size w w' := by
  have G := Lib.hid hG
  have G' := Lib.hid hU
  obtain ⟨at_, ct, rfl, hct, hct2⟩ := hG.open
  obtain ⟨at', ct', rfl, hct', hct2'⟩ := hU.open
  clear hG hU
  obtain ⟨gda, ada, cda, haga, _, hgda, _, hOda, hcda, hcd2a, hrda⟩ := G.out.head hfn
  subst haga
  have hl1a : (rowOf n (D f)).length = n := rowOf_length _ _
  obtain ⟨g1a, ha1a, _, hg1a, _, k1a⟩ := hrda.at_ (j := t) (by omega)
  subst ha1a
  rw [rowOf_getD _ _ _ htn] at k1a
  obtain ⟨xa, Hxa⟩ : ∃ x, Hid (x = D f t) := ⟨_, rfl⟩
  rw [← Hxa.out] at k1a
  clear hl1a hrda
  obtain ⟨gdb, adb, cdb, hagb, _, hgdb, _, hOdb, hcdb, hcd2b, hrdb⟩ := G'.out.head hfn
  subst hagb
  have hl1b : (rowOf n (U f)).length = n := rowOf_length _ _
  obtain ⟨g1b, ha1b, _, hg1b, _, k1b⟩ := hrdb.at_ (j := t) (by omega)
  subst ha1b
  rw [rowOf_getD _ _ _ htn] at k1b
  obtain ⟨xb, Hxb⟩ : ∃ x, Hid (x = U f t) := ⟨_, rfl⟩
  rw [← Hxb.out] at k1b
  clear hl1b hrdb
  have Hm : Hid (maxT D U f t = max xa xb) := by rw [Hxa.out, Hxb.out]; exact Lib.hid rfl
  go_enter Try.func63, Try.ntmps63
  obtain ⟨rc1, rz1⟩ := (hB).rules; have rl1 := (hB).lt
  obtain ⟨rc2, rz2⟩ := (hB').rules; have rl2 := (hB').lt
  go_wp2_with fail
  by_cases hmx : xb ≤ xa
  · go_quiet (fail)
    go_wp2_with fail
    go_ret
    exact ⟨by rw [Hm.out, Int.max_eq_left hmx]; rfl, ext_drewNc _ _⟩
  · go_quiet (fail)
    go_wp2_with fail
    go_ret
    exact ⟨by rw [Hm.out, Int.max_eq_right (by omega)]; rfl, ext_drewNc _ _⟩
def Pl.commonOk (p q : Pl) : Bool := ((p.fits && q.fits) && (decide (p.pts = q.pts) && decide (p.pts ≤ 4))) && (Pl.ofTab p.n (maxT p.clo q.clo)).ok
def Pl.common (p q : Pl) : Pl := if p.commonOk q then Pl.ofTab p.n (maxT p.clo q.clo) else Pl.zero
theorem common_len2 (p q : Pl) : (p.common q).bs.length ≤ 2000000 := by
  unfold Pl.common
  split
  · rename_i h
    have h1 : (Pl.ofTab p.n (maxT p.clo q.clo)).ok = true := by unfold Pl.commonOk at h; exact (Bool.and_eq_true _ _ ▸ h).2
    simp only [Pl.ok, Bool.and_eq_true, decide_eq_true_eq] at h1
    have := h1.2.1
    omega
  · simp [Pl.zero]
set_option maxRecDepth 100000 in
set_option maxHeartbeats 8000000 in
theorem impl_CommonOf (p q : Pl) (vp vq : Value) (w : World) (hp : Bds w 0 vp p.bs) (hq : Bds w 0 vq q.bs) :
    Calls Try.prog 35 #[.agg #[.int .i64 p.pts, vp], .agg #[.int .i64 q.pts, vq]] w (RetPlanB w (p.common q) (p.commonOk q)) := by
  have HP := Lib.hid hp
  have HQ := Lib.hid hq
  obtain ⟨a, c, rfl, hn, hc, -⟩ := hp.open
  obtain ⟨aq, cq, rfl, hnq, hcq, -⟩ := hq.open
  clear hp hq
  go_enter Try.func35, Try.ntmps35
  go_wp2_with fail
  obtain ⟨W, hW, A0, B0, R, hs, E⟩ := three_boxes w #[.int .i64 p.pts, .slice a p.bs.length c] #[.int .i64 q.pts, .slice aq q.bs.length cq] #[.int .i64 0, .slice none 0 0] 29 29 29
  rw [← hW.out]
  have q0 := E.size
  refine (impl_closedS p _ _ (HP.out.ext E)).mono ?_
  rintro e w1 ⟨at_, kt, ct, ht, rfl, hG, hb1⟩
  have A0 := A0.ext hb1
  have B0 := B0.ext hb1
  have R := R.ext hb1
  have E := ext_trans E hb1
  have q1 := hb1.size
  have HG := Lib.hid hG
  clear hG hb1
  go_upto_region 2 with fail
  obtain ⟨w2, hw2, T0, hs2, E2⟩ := one_box w1 #[.slice at_ kt ct] 67
  rw [← hw2.out]
  have A0 := A0.ext E2
  have B0 := B0.ext E2
  have R := R.ext E2
  have E := ext_trans E E2
  have HG := Lib.hid (fun h => (HG.out h).ext E2)
  have q2 := E2.size
  clear E2
  obtain ⟨rc1, rz1⟩ := (B0).rules; have rl1 := (B0).lt
  go_wp2_with fail
  refine (impl_closedS q _ _ (HQ.out.ext E)).mono ?_
  rintro e w3 ⟨au, ku, cu, hu, rfl, hG, hb3⟩
  have A0 := A0.ext hb3
  have B0 := B0.ext hb3
  have R := R.ext hb3
  have E := ext_trans E hb3
  have T0 := T0.ext hb3
  have HG := Lib.hid (fun h => (HG.out h).ext hb3)
  have HU := Lib.hid hG
  have q3 := hb3.size
  clear hG hb3 rc1 rz1 rl1
  go_upto_region 3 with fail
  obtain ⟨w4, hw4, U0, hs4, E4⟩ := one_box w3 #[.slice au ku cu] 67
  rw [← hw4.out]
  have A0 := A0.ext E4
  have B0 := B0.ext E4
  have R := R.ext E4
  have E := ext_trans E E4
  have T0 := T0.ext E4
  have HG := Lib.hid (fun h => (HG.out h).ext E4)
  have HU := Lib.hid (fun h => (HU.out h).ext E4)
  have q4 := E4.size
  clear E4
  cases hf : p.fits
  · skip
    have Hf : Hid (p.commonOk q = false) := by simp [Pl.commonOk, hf]; exact Lib.hid trivial
    have Hz : Hid (p.common q = Pl.zero) := Lib.hid (if_neg (by rw [Hf.out]; simp))
    obtain ⟨rc0, rz0⟩ := (A0).rules; have rl0 := (A0).lt
    obtain ⟨rc1, rz1⟩ := (B0).rules; have rl1 := (B0).lt
    obtain ⟨rc2, rz2⟩ := (R).rules; have rl2 := (R).lt
    go_wp2_with fail
    refine bodyPost_ret (v := .tuple #[.agg #[.int .i64 0, .slice none 0 0], .bool false]) (by simp [results, Try.results35, go_sem, *]) rfl ?_
    rw [Hf.out, Hz.out]
    exact ⟨_, rfl, Bds.nil _ _, ext_set (ext_set E (by dsimp only; omega) _) (by dsimp only; omega) _⟩
  cases hf2 : q.fits
  · skip
    have Hf : Hid (p.commonOk q = false) := by simp [Pl.commonOk, hf2]; exact Lib.hid trivial
    have Hz : Hid (p.common q = Pl.zero) := Lib.hid (if_neg (by rw [Hf.out]; simp))
    obtain ⟨rc0, rz0⟩ := (A0).rules; have rl0 := (A0).lt
    obtain ⟨rc1, rz1⟩ := (B0).rules; have rl1 := (B0).lt
    obtain ⟨rc2, rz2⟩ := (R).rules; have rl2 := (R).lt
    go_wp2_with fail
    refine bodyPost_ret (v := .tuple #[.agg #[.int .i64 0, .slice none 0 0], .bool false]) (by simp [results, Try.results35, go_sem, *]) rfl ?_
    rw [Hf.out, Hz.out]
    exact ⟨_, rfl, Bds.nil _ _, ext_set (ext_set E (by dsimp only; omega) _) (by dsimp only; omega) _⟩
  have hfo := fits_ok hf
  obtain ⟨q1', q2', q3', q4', q5⟩ := plok_in hfo.1
  have hfo2 := fits_ok hf2
  obtain ⟨r1', r2', r3', r4', r5⟩ := plok_in hfo2.1
  by_cases hpq : p.pts = q.pts
  rotate_left
  · have hne : (p.pts != q.pts) = true := by simp; exact hpq
    have Hf : Hid (p.commonOk q = false) := by simp [Pl.commonOk, hpq]; exact Lib.hid trivial
    have Hz : Hid (p.common q = Pl.zero) := Lib.hid (if_neg (by rw [Hf.out]; simp))
    obtain ⟨rc0, rz0⟩ := (A0).rules; have rl0 := (A0).lt
    obtain ⟨rc1, rz1⟩ := (B0).rules; have rl1 := (B0).lt
    obtain ⟨rc2, rz2⟩ := (R).rules; have rl2 := (R).lt
    go_wp2_with fail
    refine bodyPost_ret (v := .tuple #[.agg #[.int .i64 0, .slice none 0 0], .bool false]) (by simp [results, Try.results35, go_sem, *]) rfl ?_
    rw [Hf.out, Hz.out]
    exact ⟨_, rfl, Bds.nil _ _, ext_set (ext_set E (by dsimp only; omega) _) (by dsimp only; omega) _⟩
  obtain ⟨n, hnn⟩ : ∃ n, Hid (n = p.n) := ⟨_, rfl⟩
  have hnq' : Hid (q.n = n) := by rw [hnn.out]; unfold Pl.n; rw [hpq]; exact Lib.hid rfl
  obtain ⟨D, hD⟩ : ∃ D, Hid (D = p.clo) := ⟨_, rfl⟩
  obtain ⟨U, hU⟩ : ∃ U, Hid (U = q.clo) := ⟨_, rfl⟩
  have G : Hid (TabG w4 0 n n (.slice at_ kt ct) ht D) := by rw [hnn.out, hD.out]; exact Lib.hid ((HG.out hf).base (Nat.zero_le _))
  have GU : Hid (TabG w4 0 n n (.slice au ku cu) hu U) := by rw [← hnq'.out, hU.out]; exact Lib.hid ((HU.out hf2).base (Nat.zero_le _))
  have Hf : Hid (p.commonOk q = (decide (p.pts ≤ 4) && (Pl.ofTab n (maxT D U)).ok)) := by unfold Pl.commonOk; rw [hf, hf2, decide_eq_true hpq, Bool.true_and, Bool.true_and, Bool.true_and, hnn.out, hD.out, hU.out]; exact Lib.hid rfl
  have Hp : Hid (p.pts = (n : Int)) := by rw [hnn.out]; exact Lib.hid q1'
  have Hq : Hid (q.pts = (n : Int)) := by rw [← Hp.out]; exact Lib.hid hpq.symm
  have hn1 : 1 ≤ n ∧ n ≤ 6 := by rw [hnn.out]; exact ⟨q2', q3'⟩
  obtain ⟨at2, ct2, he2, hct, hct2⟩ := G.out.open
  have hkn : n = kt := by cases he2; rfl
  subst hkn
  obtain ⟨au2, cu2, he3, hcu, hcu2⟩ := GU.out.open
  have hkn2 : n = ku := by cases he3; rfl
  subst hkn2
  clear he2 he3
  have hff : Hid (p.fits = true ∧ q.fits = true) := Lib.hid ⟨hf, hf2⟩
  clear hf hf2 hfo hfo2 q1' q2' q3' q5 r1' r2' r3' r5 HG HU hpq
  rw [Hp.out] at A0
  rw [Hq.out] at B0
  have hne : ((n : Int) != (n : Int)) = false := by simp
  by_cases h4 : 4 < n
  · skip
    have Hf : Hid (p.commonOk q = false) := by rw [Hf.out, Hp.out, decide_eq_false (by omega)]; exact Lib.hid rfl
    have Hz : Hid (p.common q = Pl.zero) := Lib.hid (if_neg (by rw [Hf.out]; simp))
    obtain ⟨rc0, rz0⟩ := (A0).rules; have rl0 := (A0).lt
    obtain ⟨rc1, rz1⟩ := (B0).rules; have rl1 := (B0).lt
    obtain ⟨rc2, rz2⟩ := (R).rules; have rl2 := (R).lt
    go_wp2_with fail
    refine bodyPost_ret (v := .tuple #[.agg #[.int .i64 0, .slice none 0 0], .bool false]) (by simp [results, Try.results35, go_sem, *]) rfl ?_
    rw [Hf.out, Hz.out]
    exact ⟨_, rfl, Bds.nil _ _, ext_set (ext_set E (by dsimp only; omega) _) (by dsimp only; omega) _⟩
  have Hk : Hid (p.commonOk q = (Pl.ofTab n (maxT D U)).ok) := by rw [Hf.out, Hp.out, decide_eq_true (by omega), Bool.true_and]; exact Lib.hid rfl
  have Hk2 : Hid (p.common q = (Pl.ofTab n (maxT D U)).told) := by unfold Pl.common Pl.told; rw [Hk.out, hnn.out, hD.out, hU.out]; exact Lib.hid rfl
  clear Hf
  obtain ⟨rc0, rz0⟩ := (A0).rules; have rl0 := (A0).lt
  obtain ⟨rc1, rz1⟩ := (B0).rules; have rl1 := (B0).lt
  go_wp2_with fail
  refine (impl_fromTable n (maxT D U) 63 #[.pointer (some ⟨w1.heap.size, 0, none⟩), .pointer (some ⟨w3.heap.size, 0, none⟩)] (fun w' => (Box w' w1.heap.size 67 #[.slice at_ n ct] ∧ TabG w' 0 n n (.slice at_ n ct) ht D) ∧ (Box w' w3.heap.size 67 #[.slice au n cu] ∧ TabG w' 0 n n (.slice au n cu) hu U))
    (fun u1 u2 h1 h2 => ⟨⟨h1.1.1.ext h2, h1.1.2.ext h2⟩, h1.2.1.ext h2, h1.2.2.ext h2⟩) (fun f t u hf ht h => impl_CommonOf1 n D U _ _ _ _ w1.heap.size w3.heap.size f t u h.1.1 h.2.1 h.1.2 h.2.2 hf ht hn1.2) call_CommonOf1 _ ⟨⟨T0, G.out⟩, U0, GU.out⟩ hn1.2).mono ?_
  rintro e w5 ⟨v5, rfl, hv5, hb5⟩
  obtain ⟨P, hP⟩ : ∃ P, Hid (P = (Pl.ofTab n (maxT D U)).told) := ⟨_, rfl⟩
  obtain ⟨k, hk⟩ : ∃ k, Hid (k = (Pl.ofTab n (maxT D U)).ok) := ⟨_, rfl⟩
  rw [← hP.out] at hv5 ⊢
  rw [← hk.out]
  obtain ⟨a5, c5, rfl, -⟩ := hv5.open
  have V5 := Lib.hid hv5
  have R := R.ext hb5
  have q5 := hb5.size
  have E := ext_trans E hb5
  clear hv5 hb5 rc0 rz0 rl0 rc1 rz1 rl1 A0 B0
  obtain ⟨rc2, rz2⟩ := (R).rules; have rl2 := (R).lt
  go_wp2_with fail
  refine bodyPost_ret (v := .tuple #[.agg #[.int .i64 P.pts, .slice a5 P.bs.length c5], .bool k]) (by simp [results, Try.results35, go_sem, *]) rfl ?_
  rw [Hk.out, Hk2.out, ← hP.out, ← hk.out]
  refine ⟨_, rfl, ?_, ext_set (ext_set E (by dsimp only; omega) _) (by dsimp only; omega) _⟩
  have h1 := V5.out.low (p := ⟨w.heap.size + 1 + 1, 0, none⟩) (by dsimp only; omega) (.int .i64 P.pts)
  have h2 := h1.low (p := ⟨w.heap.size + 1 + 1, 1, none⟩) (by dsimp only; omega) (.slice a5 P.bs.length c5)
  exact h2.base (by omega)
end Go.Proofs.Ytpccfkbpnfbdaaa
