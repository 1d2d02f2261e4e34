/- The walks of impl.WithBound, impl.SetTo, impl.BothPlans: each returns the plan with further bounds, if it is one, and whether it is. Conditions: the bounds can be read, at most a million. -/
import Derived.Test.YtpccfkbpnfbdaaaPlanMk
namespace Go.Proofs.Ytpccfkbpnfbdaaa
open Go.RowKit
set_option linter.unusedVariables false
set_option linter.unusedSimpArgs false
def Pl.plus (p : Pl) (l : List Bd) : Pl := ⟨p.pts, p.bs ++ l⟩
theorem own_lit {w : World} (cs : Array Value) (l : List Bd) (h : cs.toList = bcells l) (hl : l.length ≤ 1000) : Bds (w.alloc (.cells cs 40)) 0 (.slice (some ⟨w.heap.size, 0, none⟩) l.length l.length) l := by
  have := World.ownsRow_lit (base := 0) (e := 40) (size := 3) w cs l.length (Nat.zero_le _) (by unfold maxLen; omega) (by rw [← bcells_length, ← h]; simp)
  unfold Bds
  rw [← h]
  exact this
set_option maxRecDepth 100000 in
set_option maxHeartbeats 1000000 in
theorem impl_WithBound (p : Pl) (b : Bd) (bs : Value) (w : World) (hv : Bds w 0 bs p.bs) (hlen : p.bs.length ≤ 1900000) :
    Calls Try.prog 24 #[.agg #[.int .i64 p.pts, bs], b.val] w (RetPlanB w (p.plus [b]).told (p.plus [b]).ok) := by
  unfold Bd.val
  have Hv := Lib.hid hv
  obtain ⟨a, cap, rfl, hn, hc, -⟩ := hv.open
  clear hv
  go_enter Try.func24, Try.ntmps24
  go_wp2_with fail
  obtain ⟨W, hW, B0, B1, B2, hs, HB⟩ := three_boxes w #[Value.int IntKind.i64 p.pts, Value.slice a p.bs.length cap] #[.int .i64 b.f, .int .i64 b.t, .int .i64 b.m] #[.int .i64 0, .slice none 0 0] 29 40 29
  rw [← hW.out]
  have hl : Bds (W.alloc (.cells #[.int .i64 b.f, .int .i64 b.t, .int .i64 b.m] 40)) 0 (.slice (some ⟨w.heap.size + 1 + 1 + 1, 0, none⟩) 1 1) [b] := by
    have := own_lit (w := W) #[.int .i64 b.f, .int .i64 b.t, .int .i64 b.m] [b] rfl (by simp)
    rw [show W.heap.size = w.heap.size + 1 + 1 + 1 from by rw [hW.out]; simp] at this
    exact this
  refine (impl_with p _ [b] _ _ ((Hv.out.ext HB).alloc _) hl (by simp; omega)).mono ?_
  rintro e w1 ⟨v1, rfl, hv1, hb1⟩
  have B2 := (B2.alloc _).ext hb1
  have E1 := ext_trans (ext_alloc HB _) hb1
  have hz1 := hb1.size
  simp only [World.size_alloc] at hz1
  obtain ⟨q, hq⟩ : ∃ q : Pl, Hid (q = p.plus [b]) := ⟨_, rfl⟩
  have hqp : q.pts = p.pts := by rw [hq.out]; rfl
  have hqb : q.bs = p.bs ++ [b] := by rw [hq.out]; rfl
  have Hqp := Lib.hid hqp
  rw [← hqb] at hv1
  have Hv1 := Lib.hid hv1
  have hql : q.bs.length ≤ 2000000 := by rw [hqb]; simp; omega
  obtain ⟨a1, cap1, rfl, -⟩ := hv1.open
  clear hqp hqb hv1
  go_wp2_with fail
  have ht := impl_told q _ w1 (Hv1.out.base (Nat.zero_le _)) hql
  rw [Hqp.out] at ht
  refine ht.mono ?_
  rintro e w2 ⟨v2, rfl, hv2, hb2⟩
  obtain ⟨tp, htp⟩ : ∃ tp : Pl, Hid (tp = q.told) := ⟨_, rfl⟩
  obtain ⟨tb, htb⟩ : ∃ tb : Bool, Hid (tb = q.ok) := ⟨_, rfl⟩
  rw [← htp.out] at hv2 ⊢
  rw [← htb.out]
  obtain ⟨a2, cap2, rfl, -⟩ := hv2.open
  have Hv2 := Lib.hid hv2
  have B2 := B2.ext hb2
  have E2 := ext_trans E1 hb2
  have hz2 := hb2.size
  obtain ⟨rc2, rz2⟩ := (B2).rules; have rl2 := (B2).lt
  clear hv2
  go_wp2_with fail
  refine bodyPost_ret (v := .tuple #[.agg #[.int .i64 tp.pts, .slice a2 tp.bs.length cap2], .bool tb]) (by simp [results, Try.results24, go_sem, *]) rfl ?_
  rw [← hq.out, ← htp.out, ← htb.out]
  exact ⟨.slice a2 tp.bs.length cap2, rfl, own_base (own_low (own_low Hv2.out (by simp; omega) _) (by simp; omega) _) (by omega), ext_set (ext_set E2 (by simp; omega) _) (by simp; omega) _⟩
end Go.Proofs.Ytpccfkbpnfbdaaa
