/- The walk of impl.TightOk. Conditions: the bounds can be read. -/
import Derived.Test.YtpccfkbpnfbdaaaClosed
import Derived.Deep.Cut
namespace Go.Proofs.Ytpccfkbpnfbdaaa
open Go.RowKit
set_option linter.unusedVariables false
set_option linter.unusedSimpArgs false
theorem ext_drewN5 (w : World) (n : Nat) : Below w.heap.size w (w.drewN n) := ⟨rfl, rfl, rfl, Nat.le_refl _, fun _ _ => rfl⟩
/-- bound k is as narrow as what follows -/
def Pl.tightAt (p : Pl) (k : Nat) : Bool := p.clo (p.bs.getD k Bd.z).f.toNat (p.bs.getD k Bd.z).t.toNat == (p.bs.getD k Bd.z).m
def Pl.tight (p : Pl) (k : Int) : Bool := p.fits && (inB k 0 (p.bs.length - 1) && p.tightAt k.toNat)
set_option maxRecDepth 100000 in
set_option maxHeartbeats 4000000 in
theorem impl_TightOk (p : Pl) (k : Int) (vp : Value) (w : World) (hp : Bds w 0 vp p.bs) (hlen : p.bs.length ≤ 1900000) :
    Calls Try.prog 18 #[.agg #[.int .i64 p.pts, vp], .int .i64 k] w fun e w' => e = .returned (.bool (p.tight k)) ∧ Below w.heap.size w w' := by
  have HP := Lib.hid hp
  obtain ⟨a, c, rfl, hn, hc, -⟩ := hp.open
  clear hp
  go_enter Try.func18, Try.ntmps18
  go_wp2_with fail
  obtain ⟨W, hW, A0, hs, E⟩ := one_box w #[.int .i64 p.pts, .slice a p.bs.length c] 29
  rw [← hW.out]
  refine (impl_closed p _ _ (HP.out.ext E)).mono ?_
  rintro e w1 ⟨vt, ht, rfl, hG, hb1⟩
  have A0 := A0.ext hb1
  have E := ext_trans E hb1
  have HG := Lib.hid hG
  clear hG hb1
  obtain ⟨rc0, rz0⟩ := (A0).rules; have rl0 := (A0).lt
  cases hf : p.fits
  · have Hf : Hid (p.tight k = false) := by simp [Pl.tight, hf]; exact Lib.hid trivial
    clear hf
    go_wp2_with fail
    go_ret
    exact ⟨by rw [Hf.out]; rfl, E⟩
  have hfo := fits_ok hf
  obtain ⟨q1, q2, q3, q4, q5⟩ := plok_in hfo.1
  obtain ⟨n, hnn⟩ : ∃ n, Hid (n = p.n) := ⟨_, rfl⟩
  obtain ⟨D, hD⟩ : ∃ D, Hid (D = p.clo) := ⟨_, rfl⟩
  have G : Hid (TabG w1 0 n n vt ht D) := by rw [hnn.out, hD.out]; exact Lib.hid ((HG.out hf).base (Nat.zero_le _))
  have Q5 : Hid (BdsIn n (-99) 99 p.bs) := by rw [hnn.out]; exact Lib.hid q5
  have Hf : Hid (p.tight k = (inB k 0 (p.bs.length - 1) && p.tightAt k.toNat)) := by simp [Pl.tight, hf]; exact Lib.hid trivial
  obtain ⟨at_, ct, rfl, hct, hct2⟩ := G.out.open
  clear hf hfo q1 q2 q3 q5 HG
  go_wp2_with fail
  refine (impl_in k 0 _ _).mono ?_
  rintro e w2 ⟨rfl, rfl⟩
  cases hk : inB k 0 ((p.bs.length : Int) - 1)
  · have Hf2 : Hid (p.tight k = false) := by rw [Hf.out, hk]; exact Lib.hid rfl
    clear hk
    go_wp2_with fail
    go_ret
    exact ⟨by rw [Hf2.out]; rfl, E⟩
  have hkk := (inB_iff _ _ _).1 hk
  obtain ⟨j, rfl⟩ := Int.eq_ofNat_of_zero_le hkk.1
  have Hf2 : Hid (p.tight (j : Int) = p.tightAt j) := by rw [Hf.out, hk, Bool.true_and]; exact Lib.hid rfl
  have hj : j < p.bs.length := by omega
  clear hk hkk
  obtain ⟨⟨f, hf, hfn⟩, ⟨t, ht', htn⟩, hm1, hm2⟩ := Q5.out j hj
  obtain ⟨g, hag, _, hg, _, c0, c1, c2⟩ := (HP.out.ext E).at_ hj
  subst hag
  obtain ⟨m, Hm⟩ : ∃ m, Hid (m = (p.bs.getD j Bd.z).m) := ⟨_, rfl⟩
  have Hta : Hid (p.tightAt j = (D f t == m)) := by
    unfold Pl.tightAt
    rw [hf, ht', ← Hm.out, hD.out]
    exact Lib.hid rfl
  rw [hf] at c0
  rw [ht'] at c1
  rw [← Hm.out] at c2
  clear hf ht' hm1 hm2
  go_upto_region 5 with fail
  obtain ⟨w3, hw3, B0, hs3, E3⟩ := one_box w1 #[.int .i64 f, .int .i64 t, .int .i64 m] 40
  rw [← hw3.out]
  have G := Lib.hid (G.out.ext E3)
  have E := ext_trans E E3
  clear c0 c1 c2 rc0 rz0 rl0 E3
  obtain ⟨rc3, rz3⟩ := (B0).rules; have rl3 := (B0).lt
  obtain ⟨gd, ad, cd, hag, _, hgd, _, hOd, hcd, hcd2, hrd⟩ := G.out.head hfn
  subst hag
  have hl1 : (rowOf n (D f)).length = n := rowOf_length _ _
  obtain ⟨g1, ha1, _, hg1, _, k1⟩ := hrd.at_ (j := t) (by omega)
  subst ha1
  rw [rowOf_getD _ _ _ htn] at k1
  obtain ⟨x, Hx⟩ : ∃ x, Hid (x = D f t) := ⟨_, rfl⟩
  rw [← Hx.out] at k1 Hta
  clear hl1 hrd
  go_quiet (fail)
  go_wp2_with fail
  go_ret
  refine ⟨?_, ext_trans E (ext_drewN5 _ _)⟩
  rw [Hf2.out, Hta.out]; rfl
end Go.Proofs.Ytpccfkbpnfbdaaa
