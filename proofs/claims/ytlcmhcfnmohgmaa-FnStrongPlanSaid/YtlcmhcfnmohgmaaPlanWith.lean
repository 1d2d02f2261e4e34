/- The walks of impl.WithBound, impl.SetTo, impl.BothPlans: each returns the plan with further bounds, if it is one, and whether it is. Conditions: the bounds can be read, at most a million. -/
import Derived.Test.YtlcmhcfnmohgmaaPlanMk
namespace Go.Proofs.Ytlcmhcfnmohgmaa
open Go.RowKit
set_option linter.unusedVariables false
set_option linter.unusedSimpArgs false
def Pl.plus (p : Pl) (l : List Bd) : Pl := ⟨p.pts, p.bs ++ l⟩
theorem own_lit {w : World} (cs : Array Value) (l : List Bd) (h : cs.toList = bcells l) (hl : l.length ≤ 1000) : Bds (w.alloc (.cells cs 48)) 0 (.slice (some ⟨w.heap.size, 0, none⟩) l.length l.length) l := by
  have := World.ownsRow_lit (base := 0) (e := 48) (size := 3) w cs l.length (Nat.zero_le _) (by unfold maxLen; omega) (by rw [← bcells_length, ← h]; simp)
  unfold Bds
  rw [← h]
  exact this
def Pl.bothOk (p q : Pl) : Bool := p.ok && (q.ok && (decide (p.pts = q.pts) && (p.plus q.bs).ok))
def Pl.both (p q : Pl) : Pl := if p.bothOk q then p.plus q.bs else Pl.zero
set_option maxRecDepth 100000 in
set_option maxHeartbeats 2000000 in
theorem impl_BothPlans (p q : Pl) (bs bs' : Value) (w : World) (hv : Bds w 0 bs p.bs) (hv' : Bds w 0 bs' q.bs) (hlen : p.bs.length + q.bs.length ≤ 1900000) :
    Calls Try.prog 43 #[.agg #[.int .i64 p.pts, bs], .agg #[.int .i64 q.pts, bs']] w (RetPlanB w (p.both q) (p.bothOk q)) := by
  have Hv := Lib.hid hv; have Hv' := Lib.hid hv'
  obtain ⟨a, cap, rfl, hn, hc, -⟩ := hv.open
  obtain ⟨a', cap', rfl, hn', hc', -⟩ := hv'.open
  clear hv hv'
  by_cases hall : p.ok = true ∧ q.ok = true ∧ p.pts = q.pts
  · obtain ⟨h1, h2, h3⟩ := hall
    have hne : (p.pts != q.pts) = false := by simp [h3]
    have hans : p.both q = (p.plus q.bs).told ∧ p.bothOk q = (p.plus q.bs).ok := by simp [Pl.both, Pl.bothOk, Pl.told, h1, h2, h3]
    obtain ⟨ha1, ha2⟩ := hans
    have Ha1 := Lib.hid ha1; have Ha2 := Lib.hid ha2
    clear ha1 ha2 h3
    go_enter Try.func43, Try.ntmps43
    go_wp2_with fail
    obtain ⟨W, hW, B0, B1, B2, hs, HB⟩ := three_boxes w #[Value.int IntKind.i64 p.pts, Value.slice a p.bs.length cap] #[.int .i64 q.pts, .slice a' q.bs.length cap'] #[.int .i64 0, .slice none 0 0] 25 25 25
    rw [← hW.out]
    refine (impl_PlanOk p _ _ (Hv.out.ext HB)).mono ?_
    rintro e w1 ⟨rfl, hb1⟩
    have B0 := B0.ext hb1; have B1 := B1.ext hb1; have B2 := B2.ext hb1
    have E1 := ext_trans HB hb1
    obtain ⟨rc1, rz1⟩ := (B1).rules; have rl1 := (B1).lt
    rw [h1]
    go_wp2_with fail
    refine (impl_PlanOk q _ _ (Hv'.out.ext E1)).mono ?_
    rintro e w2 ⟨rfl, hb2⟩
    have B0 := B0.ext hb2; have B1 := B1.ext hb2; have B2 := B2.ext hb2
    have E2 := ext_trans E1 hb2
    clear rc1 rz1 rl1
    obtain ⟨rc0, rz0⟩ := (B0).rules; have rl0 := (B0).lt
    obtain ⟨rc1, rz1⟩ := (B1).rules; have rl1 := (B1).lt
    rw [h2]
    go_wp2_with fail
    refine (impl_with p _ q.bs _ _ (Hv.out.ext E2) (Hv'.out.ext E2) (by omega)).mono ?_
    rintro e w3 ⟨v1, rfl, hv1, hb3⟩
    have B2 := B2.ext hb3
    have E3 := ext_trans E2 hb3
    have hz1 := hb1.size; have hz2 := hb2.size; have hz3 := hb3.size
    obtain ⟨r, hr⟩ : ∃ r : Pl, Hid (r = p.plus q.bs) := ⟨_, rfl⟩
    have hqp : r.pts = p.pts := by rw [hr.out]; rfl
    have hqb : r.bs = p.bs ++ q.bs := by rw [hr.out]; rfl
    have Hqp := Lib.hid hqp
    rw [← hqb] at hv1
    have Hv1 := Lib.hid hv1
    have hql : r.bs.length ≤ 2000000 := by rw [hqb]; simp; omega
    obtain ⟨a1, cap1, rfl, -⟩ := hv1.open
    clear hqp hqb hv1 rc0 rz0 rl0 rc1 rz1 rl1
    go_wp2_with fail
    have ht := impl_told r _ w3 (Hv1.out.base (Nat.zero_le _)) hql
    rw [Hqp.out] at ht
    refine ht.mono ?_
    rintro e w4 ⟨v2, rfl, hv2, hb4⟩
    obtain ⟨tp, htp⟩ : ∃ tp : Pl, Hid (tp = r.told) := ⟨_, rfl⟩
    obtain ⟨tb, htb⟩ : ∃ tb : Bool, Hid (tb = r.ok) := ⟨_, rfl⟩
    rw [← htp.out] at hv2 ⊢
    rw [← htb.out]
    obtain ⟨a2, cap2, rfl, -⟩ := hv2.open
    have Hv2 := Lib.hid hv2
    have B2 := B2.ext hb4
    have E4 := ext_trans E3 hb4
    have hz4 := hb4.size
    obtain ⟨rc2, rz2⟩ := (B2).rules; have rl2 := (B2).lt
    clear hv2
    go_wp2_with fail
    refine bodyPost_ret (v := .tuple #[.agg #[.int .i64 tp.pts, .slice a2 tp.bs.length cap2], .bool tb]) (by simp [results, Try.results43, go_sem, *]) rfl ?_
    rw [Ha1.out, Ha2.out, ← hr.out, ← htp.out, ← htb.out]
    exact ⟨.slice a2 tp.bs.length cap2, rfl, own_base (own_low (own_low Hv2.out (by simp; omega) _) (by simp; omega) _) (by omega), ext_set (ext_set E4 (by simp; omega) _) (by simp; omega) _⟩
  · have hno : p.bothOk q = false := by
      simp only [Pl.bothOk]
      cases h1 : p.ok <;> cases h2 : q.ok <;> simp_all
    have hno2 : p.both q = Pl.zero := by simp [Pl.both, hno]
    have Hno := Lib.hid hno; have Hno2 := Lib.hid hno2
    have Hall := Lib.hid hall
    clear hno hno2 hall
    go_enter Try.func43, Try.ntmps43
    go_wp2_with fail
    obtain ⟨W, hW, B0, B1, B2, hs, HB⟩ := three_boxes w #[Value.int IntKind.i64 p.pts, Value.slice a p.bs.length cap] #[.int .i64 q.pts, .slice a' q.bs.length cap'] #[.int .i64 0, .slice none 0 0] 25 25 25
    rw [← hW.out]
    refine (impl_PlanOk p _ _ (Hv.out.ext HB)).mono ?_
    rintro e w1 ⟨rfl, hb1⟩
    have B0 := B0.ext hb1; have B1 := B1.ext hb1; have B2 := B2.ext hb1
    have E1 := ext_trans HB hb1
    obtain ⟨rc1, rz1⟩ := (B1).rules; have rl1 := (B1).lt
    obtain ⟨rc2, rz2⟩ := (B2).rules; have rl2 := (B2).lt
    by_cases h1 : p.ok = true
    · rw [h1]
      go_wp2_with fail
      refine (impl_PlanOk q _ _ (Hv'.out.ext E1)).mono ?_
      rintro e w2 ⟨rfl, hb2⟩
      have B0 := B0.ext hb2; have B1 := B1.ext hb2; have B2 := B2.ext hb2
      have E2 := ext_trans E1 hb2
      clear rc1 rz1 rl1 rc2 rz2 rl2
      obtain ⟨rc0, rz0⟩ := (B0).rules; have rl0 := (B0).lt
      obtain ⟨rc1, rz1⟩ := (B1).rules; have rl1 := (B1).lt
      obtain ⟨rc2, rz2⟩ := (B2).rules; have rl2 := (B2).lt
      by_cases h2 : q.ok = true
      · have hne : (p.pts != q.pts) = true := by
          have := Hall.out
          simp [h1, h2] at this
          simpa using this
        rw [h2]
        go_wp2_with fail
        refine bodyPost_ret (v := .tuple #[.agg #[.int .i64 0, .slice none 0 0], .bool false]) (by simp [results, Try.results43, go_sem, *]) rfl ?_
        rw [Hno.out, Hno2.out]
        exact ⟨_, rfl, Bds.nil _ _, ext_set (ext_set E2 (by simp; omega) _) (by simp; omega) _⟩
      · simp only [Bool.not_eq_true] at h2
        rw [h2]
        go_wp2_with fail
        refine bodyPost_ret (v := .tuple #[.agg #[.int .i64 0, .slice none 0 0], .bool false]) (by simp [results, Try.results43, go_sem, *]) rfl ?_
        rw [Hno.out, Hno2.out]
        exact ⟨_, rfl, Bds.nil _ _, ext_set (ext_set E2 (by simp; omega) _) (by simp; omega) _⟩
    · simp only [Bool.not_eq_true] at h1
      rw [h1]
      go_wp2_with fail
      refine bodyPost_ret (v := .tuple #[.agg #[.int .i64 0, .slice none 0 0], .bool false]) (by simp [results, Try.results43, go_sem, *]) rfl ?_
      rw [Hno.out, Hno2.out]
      exact ⟨_, rfl, Bds.nil _ _, ext_set (ext_set E1 (by simp; omega) _) (by simp; omega) _⟩
end Go.Proofs.Ytlcmhcfnmohgmaa
