/- The walks of SpareOf, of impl and of spec. Conditions: the bounds can be read, at most two million. -/
import Derived.Test.YtlcmhcfnmohgmaaPlanLow
import Derived.Test.YtlcmhcfnmohgmaaClosed
import Derived.Test.YtlcmhcfnmohgmaaFitsS
import Derived.Test.YtlcmhcfnmohgmaaChainLeast
namespace Go.Proofs.Ytlcmhcfnmohgmaa
open Go.RowKit
set_option linter.unusedVariables false
set_option linter.unusedSimpArgs false
theorem low_pts (p : Pl) (k : Int) : (p.low k).n = p.n := rfl
theorem tab0_lower (bs : List Bd) (x y : Int) (h : x ≤ y) (i j : Nat) : tab0 (bs.map (Bd.lower y)) i j ≤ tab0 (bs.map (Bd.lower x)) i j := by
  refine le_tab0.2 ⟨(le_tab0.1 (Int.le_refl _)).1, fun b hb hf ht => ?_⟩
  obtain ⟨c, hc, rfl⟩ := List.mem_map.1 hb
  have := (le_tab0.1 (Int.le_refl (tab0 (bs.map (Bd.lower y)) i j))).2 (Bd.lower y c) (List.mem_map_of_mem hc) hf ht
  simp only [Bd.lower] at this ⊢
  omega
theorem fits_lower {p : Pl} {x y : Int} (h : x ≤ y) (hf : (p.low y).fits = true) (hx : (p.low x).ok = true) : (p.low x).fits = true :=
  fits_mk hx (fits_less (fun i j _ _ => tab0_lower p.bs x y h i j) (fits_ok hf).2)
theorem low_zero (p : Pl) : p.low 0 = p := by
  have : p.bs.map (Bd.lower 0) = p.bs := by
    have e : Bd.lower 0 = id := by funext b; simp [Bd.lower]
    rw [e, List.map_id]
  unfold Pl.low; rw [this]
theorem low_okm {p : Pl} {x y : Int} (hp : p.ok = true) (h0 : 0 ≤ x) (h : x ≤ y) (hy : (p.low y).ok = true) : (p.low x).ok = true := by
  simp only [Pl.ok, Bool.and_eq_true, decide_eq_true_eq, List.all_eq_true, Pl.low, List.length_map] at hp hy ⊢
  refine ⟨hy.1, hy.2.1, fun b hb => ?_⟩
  obtain ⟨c, hc, rfl⟩ := List.mem_map.1 hb
  have h1 := hy.2.2 _ (List.mem_map_of_mem (f := Bd.lower y) hc)
  have h2 := hp.2.2 _ hc
  simp only [Bd.ok, Bd.lower, Bool.and_eq_true, inB_iff] at h1 h2 ⊢
  refine ⟨h2.1, h2.2.1, by omega, by omega⟩
/-- lowered by so much it is a plan that fits -/
def Pl.goodLow (p : Pl) (k : Nat) : Bool := p.lowOk k && (p.lowered k).fits
theorem good_iff {p : Pl} {k : Nat} : p.goodLow k = true ↔ p.ok = true ∧ k ≤ 99 ∧ (p.low k).ok = true ∧ (p.low k).fits = true := by
  unfold Pl.goodLow Pl.lowered
  cases h : p.lowOk k
  · simp only [Bool.false_and]
    constructor
    · intro h'; cases h'
    · rintro ⟨h1, h2, h3, -⟩
      simp only [Pl.lowOk, h1, h3, Bool.and_true, Bool.true_and] at h
      rw [(inB_iff _ _ _).2 ⟨by omega, by omega⟩] at h
      cases h
  · simp only [Bool.true_and, if_true]
    simp only [Pl.lowOk, Bool.and_eq_true, inB_iff] at h
    exact ⟨fun hf => ⟨h.1, by omega, h.2.2, hf⟩, fun hf => hf.2.2.2⟩
theorem good_mono {p : Pl} {x y : Nat} (h : x ≤ y) (hy : p.goodLow y = true) : p.goodLow x = true := by
  obtain ⟨h1, h2, h3, h4⟩ := good_iff.1 hy
  have h5 := low_okm (x := x) (y := y) h1 (by omega) (by omega) h3
  exact good_iff.2 ⟨h1, by omega, h5, fits_lower (x := x) (y := y) (by omega) h4 h5⟩
theorem good_zero {p : Pl} (h : p.fits = true) : p.goodLow 0 = true := by
  have e : p.low ((0 : Nat) : Int) = p := low_zero p
  exact good_iff.2 ⟨(fits_ok h).1, by omega, by rw [e]; exact (fits_ok h).1, by rw [e]; exact h⟩
/-- how many numbers from 0 on are good -/
def Pl.goods (p : Pl) : Nat := leastLt (fun k => !p.goodLow k) 100
def Pl.spare (p : Pl) : Int := if p.fits then (p.goods : Int) - 1 else -1
theorem goods_in {p : Pl} (h : p.fits = true) : 1 ≤ p.goods ∧ p.goods ≤ 100 ∧ ∀ k, k < 100 → (p.goodLow k = true ↔ k < p.goods) := by
  have h0 := good_zero h
  have h1 : p.goods ≤ 100 := least_le _ _
  have key : ∀ k, k < 100 → (p.goodLow k = true ↔ k < p.goods) := fun k hk => by
    constructor
    · intro hg
      rcases Nat.lt_or_ge k p.goods with h | h
      · exact h
      · exfalso
        have hb := good_mono h hg
        have := least_at (P := fun k => !p.goodLow k) (n := 100) (show leastLt (fun k => !p.goodLow k) 100 < 100 from Nat.lt_of_le_of_lt h hk)
        have e : (!p.goodLow p.goods) = true := this
        rw [hb] at e
        cases e
    · intro hlt
      have := least_not (P := fun k => !p.goodLow k) (n := 100) (i := k) hlt
      simpa using this
  exact ⟨(key 0 (by omega)).1 h0, h1, key⟩
set_option maxRecDepth 100000 in
set_option maxHeartbeats 4000000 in
theorem impl_SpareOf (p : Pl) (bs : Value) (w : World) (hv : Bds w 0 bs p.bs) (hlen : p.bs.length ≤ 2000000) :
    Calls Try.prog 40 #[.agg #[.int .i64 p.pts, bs]] w fun e w' => e = .returned (.int .i64 p.spare) ∧ Below w.heap.size w w' := by
  have V := Lib.hid hv
  obtain ⟨a, c, rfl, hn, hc, -⟩ := hv.open
  clear hv
  go_enter Try.func40, Try.ntmps40
  go_wp2_with fail
  obtain ⟨W, hW, A0, hs, E⟩ := one_box w #[.int .i64 p.pts, .slice a p.bs.length c] 25
  rw [← hW.out]
  refine (impl_FitsOk p _ _ (V.out.ext E)).mono ?_
  rintro e w1 ⟨rfl, hb1⟩
  have A0 := A0.ext hb1
  have E := ext_trans E hb1
  cases hf : p.fits
  · go_wp2_with fail
    go_ret
    exact ⟨by rw [show p.spare = -1 from if_neg (by simp [hf])]; rfl, E⟩
  · have hsp : Hid (p.spare = (p.goods : Int) - 1) := if_pos hf
    obtain ⟨g1, g2, g3⟩ := goods_in hf
    have G3 := Lib.hid g3
    obtain ⟨N, hN⟩ : ∃ N, Hid (N = p.goods) := ⟨_, rfl⟩
    rw [← hN.out] at g1 g2 G3 hsp
    clear hf g3
    go_wp2_with fail
    go_loopg [3] 99 (fun m kk wr => ∃ k : Nat, k ≤ 99 ∧ m = k ∧ kk = .int .i64 k ∧ N ≤ k + 1 ∧ Below w1.heap.size w1 wr)
    case atStart => exact ⟨99, by omega, rfl, rfl, by omega, ext_refl _⟩
    case round =>
      obtain ⟨k, hk, hgk, rfl, hNk, hb⟩ := hrel
      have Hk := Lib.hid hgk
      clear hgk
      have A1 := A0.ext hb
      obtain ⟨rc1, rz1⟩ := (A1).rules; have rl1 := (A1).lt
      by_cases hk0 : 0 < k
      · go_wp2_with fail
        refine (impl_LoweredBy p k _ _ (V.out.ext (ext_trans E hb)) hlen).mono ?_
        rintro e w2 ⟨vq, rfl, hq, hb2⟩
        obtain ⟨aq, cq, rfl, -⟩ := hq.open
        have Q := Lib.hid hq
        have hb := ext_trans hb hb2
        clear hq hb2 rc1 rz1 rl1 A1
        have hg := G3.out k (by omega)
        cases hlo : p.lowOk k
        · have hnk : ¬ k < N := fun h => by have := hg.2 h; rw [Pl.goodLow, hlo] at this; cases this
          clear hg hlo
          go_wp2_with fail
          obtain ⟨w3, hw3, B3, hs3, E3⟩ := one_box w2 #[.int .i64 (p.lowered k).pts, .slice aq (p.lowered k).bs.length cq] 25
          try rw [← hw3.out]
          go_roundg (k-1)
          case rel => exact ⟨k-1, by omega, rfl, by go_num, by omega, ext_trans hb E3⟩
          case measure => have := Hk.out; omega
        · have Hlo := Lib.hid hlo
          clear hlo
          go_wp2_with fail
          obtain ⟨w3, hw3, B3, hs3, E3⟩ := one_box w2 #[.int .i64 (p.lowered k).pts, .slice aq (p.lowered k).bs.length cq] 25
          rw [← hw3.out]
          have hb := ext_trans hb E3
          refine (impl_FitsOk (p.lowered k) _ _ ((Q.out.ext E3).base (Nat.zero_le _))).mono ?_
          rintro e w4 ⟨rfl, hb4⟩
          have hb := ext_trans hb hb4
          clear hb4 E3 B3 hw3
          cases hfq : (p.lowered k).fits
          · have hnk : ¬ k < N := fun h => by have := hg.2 h; rw [Pl.goodLow, hfq, Bool.and_false] at this; cases this
            clear hg hfq
            go_wp2_with fail
            go_roundg (k-1)
            case rel => exact ⟨k-1, by omega, rfl, by go_num, by omega, hb⟩
            case measure => have := Hk.out; omega
          · have hyk : k < N := hg.1 (by rw [Pl.goodLow, hfq, Hlo.out]; rfl)
            clear hg hfq
            go_wp2_with fail
            go_ret
            refine ⟨?_, ext_trans E hb⟩
            rw [hsp.out, show (N : Int) - 1 = k by omega]; rfl
      · have hk0 : k = 0 := by omega
        subst hk0
        go_wp2_with fail
        go_ret
        refine ⟨?_, ext_trans E hb⟩
        rw [hsp.out, show (N : Int) - 1 = 0 by omega]; rfl
set_option maxRecDepth 100000 in
set_option maxHeartbeats 4000000 in
theorem spec_SpareOf (p : Pl) (bs : Value) (w : World) (hv : Bds w 0 bs p.bs) (hlen : p.bs.length ≤ 2000000) :
    Calls Try.prog 38 #[.agg #[.int .i64 p.pts, bs]] w fun e w' => e = .returned (.int .i64 p.spare) ∧ Below w.heap.size w w' := by
  have V := Lib.hid hv
  obtain ⟨a, c, rfl, hn, hc, -⟩ := hv.open
  clear hv
  go_enter Try.func38, Try.ntmps38
  go_wp2_with fail
  obtain ⟨W, hW, A0, hs, E⟩ := one_box w #[.int .i64 p.pts, .slice a p.bs.length c] 25
  rw [← hW.out]
  obtain ⟨N, hN⟩ : ∃ N : Nat, Hid (N = if p.fits then p.goods else 0) := ⟨_, rfl⟩
  have hsp : Hid (p.spare = (N : Int) - 1) := by
    rw [hN.out, Pl.spare]
    cases p.fits
    · exact Lib.hid rfl
    · exact Lib.hid rfl
  have hN100 : N ≤ 100 := by rw [hN.out]; split; exact least_le _ _; omega
  have hgood : Hid (p.fits = true → ∀ k, k < 100 → (p.goodLow k = true ↔ k < N)) := fun hf => by rw [hN.out, if_pos hf]; exact (goods_in hf).2.2
  have hno : Hid (p.fits = false → N = 0) := fun hf => by rw [hN.out, if_neg (by simp [hf])]
  go_loopg [3, 4] 100 (fun m bb kk wr => ∃ k : Nat, k ≤ 100 ∧ m = 100 - k ∧ kk = .int .i64 k ∧ bb = .int .i64 ((k : Int) - 1) ∧ k ≤ N ∧ Below W.heap.size W wr)
  case atStart => exact ⟨0, by omega, by omega, rfl, rfl, by omega, ext_refl _⟩
  case round =>
    obtain ⟨k, hk, hgk, rfl, rfl, hkN, hb⟩ := hrel
    have Hk := Lib.hid hgk
    clear hgk
    have A1 := A0.ext hb
    obtain ⟨rc1, rz1⟩ := (A1).rules; have rl1 := (A1).lt
    by_cases hk9 : k ≤ 99
    · go_wp2_with fail
      refine (spec_FitsOk p _ _ (V.out.ext (ext_trans E hb))).mono ?_
      rintro e w1 ⟨rfl, hb1⟩
      have hb := ext_trans hb hb1
      clear rc1 rz1 rl1 A1 hb1
      cases hf : p.fits
      · have h0 := hno.out hf
        clear hf
        go_wp2_with fail
        go_ret
        refine ⟨?_, ext_trans E hb⟩
        rw [hsp.out, show (N : Int) - 1 = (k : Int) - 1 by omega]; rfl
      · have hg := hgood.out hf k (by omega)
        clear hf
        have A1 := A0.ext hb
        obtain ⟨rc1, rz1⟩ := (A1).rules; have rl1 := (A1).lt
        go_wp2_with fail
        refine (spec_LoweredBy p k _ _ (V.out.ext (ext_trans E hb)) hlen).mono ?_
        rintro e w2 ⟨vq, rfl, hq, hb2⟩
        obtain ⟨aq, cq, rfl, -⟩ := hq.open
        have Q := Lib.hid hq
        have hb := ext_trans hb hb2
        clear hq hb2 rc1 rz1 rl1 A1
        cases hlo : p.lowOk k
        · have hnk : ¬ k < N := fun h => by have := hg.2 h; rw [Pl.goodLow, hlo] at this; cases this
          clear hg hlo
          go_wp2_with fail
          obtain ⟨w3, hw3, B3, hs3, E3⟩ := one_box w2 #[.int .i64 (p.lowered k).pts, .slice aq (p.lowered k).bs.length cq] 25
          try rw [← hw3.out]
          go_ret
          refine ⟨?_, ext_trans E (ext_trans hb E3)⟩
          rw [hsp.out, show (N : Int) - 1 = (k : Int) - 1 by omega]; rfl
        · have Hlo := Lib.hid hlo
          clear hlo
          go_wp2_with fail
          obtain ⟨w3, hw3, B3, hs3, E3⟩ := one_box w2 #[.int .i64 (p.lowered k).pts, .slice aq (p.lowered k).bs.length cq] 25
          rw [← hw3.out]
          have hb := ext_trans hb E3
          refine (spec_FitsOk (p.lowered k) _ _ ((Q.out.ext E3).base (Nat.zero_le _))).mono ?_
          rintro e w4 ⟨rfl, hb4⟩
          have hb := ext_trans hb hb4
          clear hb4 E3 B3 hw3
          cases hfq : (p.lowered k).fits
          · have hnk : ¬ k < N := fun h => by have := hg.2 h; rw [Pl.goodLow, hfq, Bool.and_false] at this; cases this
            clear hg hfq
            go_wp2_with fail
            go_ret
            refine ⟨?_, ext_trans E hb⟩
            rw [hsp.out, show (N : Int) - 1 = (k : Int) - 1 by omega]; rfl
          · have hyk : k < N := hg.1 (by rw [Pl.goodLow, hfq, Hlo.out]; rfl)
            clear hg hfq
            go_wp2_with fail
            go_roundg (100 - (k+1))
            case rel => exact ⟨k+1, by omega, rfl, by go_num, by go_num, by omega, hb⟩
            case measure => have := Hk.out; omega
    · have hk9 : k = 100 := by omega
      subst hk9
      go_wp2_with fail
      go_ret
      refine ⟨?_, ext_trans E hb⟩
      rw [hsp.out, show (N : Int) - 1 = ((100 : Nat) : Int) - 1 by omega]; rfl
end Go.Proofs.Ytlcmhcfnmohgmaa
