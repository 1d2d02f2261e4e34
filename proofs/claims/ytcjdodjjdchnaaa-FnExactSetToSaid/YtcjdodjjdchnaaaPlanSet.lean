/- The walk of spec.SetTo: it returns what impl.SetTo does. Conditions: the bounds can be read, and are at most 1.8 million. -/
import Derived.Test.YtcjdodjjdchnaaaPlanOut
namespace Go.Proofs.Ytcjdodjjdchnaaa
open Go.RowKit
set_option linter.unusedVariables false
set_option linter.unusedSimpArgs false
theorem told_twice (p : Pl) (b c : Bd) : (((p.plus [b]).told).plus [c]).told = (p.plus [b, c]).told ∧ (((p.plus [b]).told).plus [c]).ok = (p.plus [b, c]).ok := by
  have e : (p.plus [b]).plus [c] = p.plus [b, c] := by simp [Pl.plus]
  cases h : (p.plus [b]).ok with
  | true =>
    have : (p.plus [b]).told = p.plus [b] := if_pos h
    rw [this, e]
    exact ⟨rfl, rfl⟩
  | false =>
    have h1 : (p.plus [b]).told = Pl.zero := by simp [Pl.told, h]
    have h2 : (p.plus [b, c]).ok = false := by
      cases h3 : (p.plus [b, c]).ok with
      | false => rfl
      | true => rw [← e] at h3; rw [plus_ok h3] at h; cases h
    have h4 : (Pl.zero.plus [c]).ok = false := by simp [Pl.ok, Pl.plus, Pl.zero, inB]
    rw [h1]
    simp [Pl.told, h2, h4]
set_option maxRecDepth 100000 in
set_option maxHeartbeats 2000000 in
theorem spec_SetTo (p : Pl) (f t k : Int) (bs : Value) (w : World) (hv : Bds w 0 bs p.bs) (hlen : p.bs.length ≤ 1800000) :
    Calls Try.prog 53 #[.agg #[.int .i64 p.pts, bs], .int .i64 f, .int .i64 t, .int .i64 k] w (RetPlanB w (p.plus (setBs f t k)).told (p.plus (setBs f t k)).ok) := by
  have Hv := Lib.hid hv
  obtain ⟨a, cap, rfl, hn, hc, -⟩ := hv.open
  clear hv
  go_enter Try.func53, Try.ntmps53
  go_wp2_with fail
  obtain ⟨W, hW, B0, B2, hs, HB⟩ := two_boxes w #[Value.int IntKind.i64 p.pts, Value.slice a p.bs.length cap] #[.int .i64 0, .slice none 0 0] 25 25
  rw [← hW.out]
  refine (spec_WithBound p ⟨f, t, k⟩ _ _ (Hv.out.ext HB) (by omega)).mono ?_
  rintro e w1 ⟨v1, rfl, hv1, hb1⟩
  obtain ⟨q, hq⟩ : ∃ q : Pl, Hid (q = (p.plus [⟨f, t, k⟩]).told) := ⟨_, rfl⟩
  obtain ⟨qb, hqb⟩ : ∃ qb : Bool, Hid (qb = (p.plus [⟨f, t, k⟩]).ok) := ⟨_, rfl⟩
  rw [← hq.out] at hv1 ⊢
  rw [← hqb.out]
  have hql : q.bs.length ≤ 1900000 := by rw [hq.out]; unfold Pl.told; split <;> simp [Pl.plus, Pl.zero]; omega
  obtain ⟨a1, cap1, rfl, -⟩ := hv1.open
  have Hv1 := Lib.hid hv1
  have B2 := B2.ext hb1
  have E := ext_trans HB hb1
  have hz1 := hb1.size
  clear hv1
  go_wp2_with fail
  have Bq := Box.new w1 25 #[.int .i64 q.pts, .slice a1 q.bs.length cap1]
  refine (spec_WithBound q ⟨t, f, wrap64 (-k)⟩ _ _ ((Hv1.out.base (Nat.zero_le _)).alloc _) hql).mono ?_
  rintro e w2 ⟨v2, rfl, hv2, hb2⟩
  have htw := told_twice p ⟨f, t, k⟩ ⟨t, f, wrap64 (-k)⟩
  rw [← hq.out] at htw
  obtain ⟨ht1, ht2⟩ := htw
  rw [ht1, ht2]
  rw [ht1] at hv2
  clear ht1 ht2
  obtain ⟨x, hx⟩ : ∃ x : Pl, Hid (x = (p.plus (setBs f t k)).told) := ⟨_, rfl⟩
  obtain ⟨xb, hxb⟩ : ∃ xb : Bool, Hid (xb = (p.plus (setBs f t k)).ok) := ⟨_, rfl⟩
  have hx' : (p.plus [⟨f, t, k⟩, ⟨t, f, wrap64 (-k)⟩]).told = x := hx.out.symm
  have hxb' : (p.plus [⟨f, t, k⟩, ⟨t, f, wrap64 (-k)⟩]).ok = xb := hxb.out.symm
  rw [hx'] at hv2 ⊢
  rw [hxb', ← hx.out, ← hxb.out]
  clear hx' hxb'
  obtain ⟨a2, cap2, rfl, -⟩ := hv2.open
  have Hv2 := Lib.hid hv2
  have B2 := (B2.alloc (.cells #[.int .i64 q.pts, .slice a1 q.bs.length cap1] 25)).ext hb2
  have E := ext_trans (ext_alloc E (.cells #[.int .i64 q.pts, .slice a1 q.bs.length cap1] 25)) hb2
  have hz2 := hb2.size
  simp only [World.size_alloc] at hz2
  obtain ⟨rc2, rz2⟩ := (B2).rules; have rl2 := (B2).lt
  clear hv2
  go_wp2_with fail
  refine bodyPost_ret (v := .tuple #[.agg #[.int .i64 x.pts, .slice a2 x.bs.length cap2], .bool xb]) (by simp [results, Try.results53, go_sem, *]) rfl ?_
  rw [hx.out, hxb.out]
  rw [← hx.out, ← hxb.out]
  exact ⟨.slice a2 x.bs.length cap2, rfl, own_base (own_low (own_low Hv2.out (by simp; omega) _) (by simp; omega) _) (by simp; omega), ext_set (ext_set E (by simp) _) (by simp) _⟩
end Go.Proofs.Ytcjdodjjdchnaaa
