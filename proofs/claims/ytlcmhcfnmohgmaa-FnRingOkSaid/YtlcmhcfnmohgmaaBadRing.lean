/- The walk of BadRing of spec: it gives some row. Conditions: the bounds can be read, they are few, and so are the points. -/
import Derived.Test.YtlcmhcfnmohgmaaSearch
namespace Go.Proofs.Ytlcmhcfnmohgmaa
open Go.RowKit
set_option linter.unusedVariables false
set_option linter.unusedSimpArgs false
def RetSome (w : World) : Ending → World → Prop := fun e w' => ∃ (v : Value) (l : List Int) (b : Bool), e = .returned (.tuple #[v, .bool b]) ∧ Ints w' w.heap.size v l ∧ l.length ≤ 10 ∧ Below w.heap.size w w'
set_option maxRecDepth 100000 in
set_option maxHeartbeats 4000000 in
theorem spec_BadRing (p : Pl) (v1 : Value) (w : World) (hp : Bds w 0 v1 p.bs) (hbl : p.bs.length ≤ 100) (h7 : p.pts ≤ 7) :
    Calls Try.prog 84 #[.agg #[.int .i64 p.pts, v1]] w (RetSome w) := by
  have HP := Lib.hid hp
  obtain ⟨a1, c1, rfl, hn1, hc1, -⟩ := hp.open
  clear hp
  go_enter Try.func84, Try.ntmps84
  go_wp2_with fail
  obtain ⟨W, hW, A0, hs, E⟩ := one_box w #[.int .i64 p.pts, .slice a1 p.bs.length c1] 25
  rw [← hW.out]
  refine (spec_PlanOk p _ _ (HP.out.ext E)).mono ?_
  rintro e w1 ⟨rfl, hb1⟩
  have A0 := A0.ext hb1
  have E := ext_trans E hb1
  obtain ⟨rc0, rz0⟩ := (A0).rules; have rl0 := (A0).lt
  cases hok : p.ok
  · go_upto_region 3 with fail
    obtain ⟨w9, hw9, T9, hs9, hb9⟩ := one_box w1 #[] 3
    rw [← hw9.out]
    go_wp2_with fail
    go_ret2
    exact ⟨_, [], false, rfl, Ints.ofBox T9 E.size, by simp, ext_trans E hb9⟩
  have hp1 : 1 ≤ p.pts := by
    simp only [Pl.ok, Bool.and_eq_true, inB_iff] at hok
    exact hok.1.1
  clear hok
  go_wp2_with fail
  refine (spec_FitsOk p _ _ (HP.out.ext E)).mono ?_
  rintro e w2 ⟨rfl, hb2⟩
  have A0 := A0.ext hb2
  have E := ext_trans E hb2
  clear rc0 rz0 rl0
  obtain ⟨rc0, rz0⟩ := (A0).rules; have rl0 := (A0).lt
  cases hf : p.fits
  · clear hf
    obtain ⟨P, hP⟩ : ∃ P : Nat, Hid (p.pts = (P : Int)) := ⟨p.pts.toNat, Lib.hid (by omega)⟩
    rw [hP.out] at A0
    have hP1 : 1 ≤ P ∧ P ≤ 7 := by have := hP.out; omega
    clear rc0 rz0 rl0
    obtain ⟨rc0, rz0⟩ := (A0).rules; have rl0 := (A0).lt
    go_wp2_with fail
    clear rc0 rz0 rl0
    go_loopg [4] 20 (fun m kk wr => ∃ k : Nat, 1 ≤ k ∧ k ≤ P + 1 ∧ m + k = 21 ∧ kk = .int .i64 k ∧ Below w2.heap.size w2 wr)
    case atStart => exact ⟨1, by omega, by omega, by omega, rfl, ext_refl _⟩
    case round =>
      rename World => wr
      obtain ⟨k, hk1, hk, hgk, rfl, hb⟩ := hrel
      have Hk := Lib.hid hgk
      clear hgk
      have A1 := A0.ext hb
      have E1 := ext_trans E hb
      have q1 := E1.size
      obtain ⟨rc0, rz0⟩ := (A1).rules; have rl0 := (A1).lt
      by_cases hlk : k ≤ P
      · have hlki : (k : Int) ≤ (P : Int) := by omega
        go_wp2_with fail
        obtain ⟨w4, hw4, T4, hs4, hb4⟩ := one_box wr #[] 3
        rw [← hw4.out]
        have hT : Ints w4 wr.heap.size (.slice (some ⟨wr.heap.size, 0, none⟩) 0 0) [] := Ints.ofBox T4 (Nat.le_refl _)
        refine (show Calls Try.prog 92 #[.agg #[.int .i64 P, .slice a1 p.bs.length c1], .slice (some ⟨wr.heap.size, 0, none⟩) 0 0, .int .i64 k, .int .i64 0] w4 (RetRow w4 (.slice (some ⟨wr.heap.size, 0, none⟩) 0 0) [] k) by
          rw [← hP.out]; exact spec_l3Search p k hk1 (by omega) hbl k [] 0 _ _ w4 (by simp) (fun j hj => by simp at hj) (HP.out.ext (ext_trans E1 hb4)) (hT.base (Nat.zero_le _))).mono ?_
        rintro e w5 ⟨v9, l9, rfl, hor, hl9, hb5⟩
        have hfin : Ints w5 w.heap.size v9 l9 := by
          rcases hor with ⟨rfl, rfl⟩ | h
          · exact (hT.ext hb5).base (by omega)
          · exact h.base (by omega)
        have R9 := Lib.hid hfin
        obtain ⟨a9, c9, rfl, -⟩ := hfin.open
        have hb := ext_trans hb (ext_trans hb4 hb5)
        have E1 := ext_trans E hb
        clear hor hfin hb4 hb5 hT T4 rc0 rz0 rl0 A1
        by_cases hl0 : 0 < l9.length
        · have hl0i : (0 : Int) < (l9.length : Int) := by omega
          go_wp2_with fail
          go_ret2
          exact ⟨_, l9, true, rfl, R9.out, by omega, E1⟩
        · have hl0i : ¬ ((0 : Int) < (l9.length : Int)) := by omega
          go_wp2_with fail
          go_roundg (20 - k)
          case rel => exact ⟨k+1, by omega, by omega, by omega, by go_num, hb⟩
          case measure => have := Hk.out; omega
      · have hlki : ¬ ((k : Int) ≤ (P : Int)) := by omega
        go_wp2_with fail
        go_ret2
        exact ⟨_, [], false, rfl, Ints.ofBox (Box.new _ _ _) (by omega), by simp, ext_alloc E1 _⟩
  · go_upto_region 3 with fail
    obtain ⟨w9, hw9, T9, hs9, hb9⟩ := one_box w2 #[] 3
    rw [← hw9.out]
    go_wp2_with fail
    go_ret2
    exact ⟨_, [], false, rfl, Ints.ofBox T9 E.size, by simp, ext_trans E hb9⟩
end Go.Proofs.Ytlcmhcfnmohgmaa
