/- The walks of NeedlessOk, of impl and of spec. Conditions: the bounds can be read, not too many. -/
import Derived.Test.YtpccfkbpnfbdaaaImpliesS
import Derived.Test.YtpccfkbpnfbdaaaPlanCut
namespace Go.Proofs.Ytpccfkbpnfbdaaa
open Go.RowKit
set_option linter.unusedVariables false
set_option linter.unusedSimpArgs false
def Pl.needless (p : Pl) (k : Int) : Bool := p.cutOk k && p.alike (p.cut k)
set_option maxHeartbeats 2000000 in
theorem impl_NeedlessOk (p : Pl) (k : Int) (vp : Value) (w : World) (hp : Bds w 0 vp p.bs) (hlen : p.bs.length ≤ 1900000) :
    Calls Try.prog 12 #[.agg #[.int .i64 p.pts, vp], .int .i64 k] w fun e w' => e = .returned (.bool (p.needless k)) ∧ Below w.heap.size w w' := by
  have HP := Lib.hid hp
  obtain ⟨a, c, rfl, hn, hc, -⟩ := hp.open
  clear hp
  go_enter Try.func12, Try.ntmps12
  go_wp2_with fail
  obtain ⟨W, hW, A0, hs, E⟩ := one_box w #[.int .i64 p.pts, .slice a p.bs.length c] 29
  rw [← hW.out]
  refine (impl_WithoutBound p k _ _ (HP.out.ext E) hlen).mono ?_
  rintro e w1 ⟨vq, rfl, hq, hb1⟩
  obtain ⟨aq, cq, rfl, -⟩ := hq.open
  have Q := Lib.hid hq
  have A0 := A0.ext hb1
  have E := ext_trans E hb1
  have q1 := hb1.size
  clear hq hb1
  cases hk : p.cutOk k
  · have Hf : Hid (p.needless k = false) := by simp [Pl.needless, hk]; exact Lib.hid trivial
    clear hk
    go_wp2_with fail
    obtain ⟨w2, hw2, B0, hs2, E2⟩ := one_box w1 #[.int .i64 (p.cut k).pts, .slice aq (p.cut k).bs.length cq] 29
    rw [← hw2.out]
    go_ret
    exact ⟨by rw [Hf.out]; rfl, ext_trans E E2⟩
  have Hf : Hid (p.needless k = p.alike (p.cut k)) := by simp [Pl.needless, hk]; exact Lib.hid trivial
  clear hk
  obtain ⟨rc0, rz0⟩ := (A0).rules; have rl0 := (A0).lt
  go_wp2_with fail
  obtain ⟨w2, hw2, B0, hs2, E2⟩ := one_box w1 #[.int .i64 (p.cut k).pts, .slice aq (p.cut k).bs.length cq] 29
  rw [← hw2.out]
  have E := ext_trans E E2
  refine (impl_AlikeOk p (p.cut k) _ _ _ (HP.out.ext E) ((Q.out.ext E2).base (Nat.zero_le _))).mono ?_
  rintro e w3 ⟨rfl, hb3⟩
  go_wp2_with fail
  go_ret
  exact ⟨by rw [Hf.out]; rfl, ext_trans E hb3⟩
set_option maxHeartbeats 2000000 in
theorem spec_NeedlessOk (p : Pl) (k : Int) (vp : Value) (w : World) (hp : Bds w 0 vp p.bs) (hlen : p.bs.length ≤ 1900000) :
    Calls Try.prog 10 #[.agg #[.int .i64 p.pts, vp], .int .i64 k] w fun e w' => e = .returned (.bool (p.needless k)) ∧ Below w.heap.size w w' := by
  have HP := Lib.hid hp
  obtain ⟨a, c, rfl, hn, hc, -⟩ := hp.open
  clear hp
  go_enter Try.func10, Try.ntmps10
  go_wp2_with fail
  obtain ⟨W, hW, A0, hs, E⟩ := one_box w #[.int .i64 p.pts, .slice a p.bs.length c] 29
  rw [← hW.out]
  refine (spec_WithoutBound p k _ _ (HP.out.ext E) hlen).mono ?_
  rintro e w1 ⟨vq, rfl, hq, hb1⟩
  obtain ⟨aq, cq, rfl, -⟩ := hq.open
  have Q := Lib.hid hq
  have A0 := A0.ext hb1
  have E := ext_trans E hb1
  have q1 := hb1.size
  clear hq hb1
  cases hk : p.cutOk k
  · have Hf : Hid (p.needless k = false) := by simp [Pl.needless, hk]; exact Lib.hid trivial
    clear hk
    go_wp2_with fail
    obtain ⟨w2, hw2, B0, hs2, E2⟩ := one_box w1 #[.int .i64 (p.cut k).pts, .slice aq (p.cut k).bs.length cq] 29
    rw [← hw2.out]
    go_ret
    exact ⟨by rw [Hf.out]; rfl, ext_trans E E2⟩
  have Hf : Hid (p.needless k = p.alike (p.cut k)) := by simp [Pl.needless, hk]; exact Lib.hid trivial
  clear hk
  obtain ⟨rc0, rz0⟩ := (A0).rules; have rl0 := (A0).lt
  go_wp2_with fail
  obtain ⟨w2, hw2, B0, hs2, E2⟩ := one_box w1 #[.int .i64 (p.cut k).pts, .slice aq (p.cut k).bs.length cq] 29
  rw [← hw2.out]
  have E := ext_trans E E2
  refine (spec_AlikeOk p (p.cut k) _ _ _ (HP.out.ext E) ((Q.out.ext E2).base (Nat.zero_le _))).mono ?_
  rintro e w3 ⟨rfl, hb3⟩
  go_wp2_with fail
  go_ret
  exact ⟨by rw [Hf.out]; rfl, ext_trans E hb3⟩
end Go.Proofs.Ytpccfkbpnfbdaaa
