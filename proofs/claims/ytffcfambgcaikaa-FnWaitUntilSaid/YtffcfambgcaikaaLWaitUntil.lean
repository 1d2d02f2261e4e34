/- The walk of FnWaitUntil: it returns true, whatever code came in. Condition: the bytes of the code can be read. -/
import Derived.Test.YtffcfambgcaikaaHeardD
import Derived.Test.YtffcfambgcaikaaWaitI
import Derived.Test.YtffcfambgcaikaaSame
namespace Go.Proofs.Ytffcfambgcaikaa
open Go.RowKit
set_option linter.unusedVariables false
set_option linter.unusedSimpArgs false
set_option maxRecDepth 100000 in
set_option maxHeartbeats 8000000 in
theorem walk_WaitUntil (a : Option Addr) (n cap : Nat) (w : World) (h : Byt w w.heap.size a n cap) :
    Calls Try.prog 8 #[.slice a n cap] w fun e w' => e = .returned (.bool true) ∧ Below w.heap.size w w' := by
  have H := Lib.hid h
  obtain ⟨hncap, hcap, -⟩ := id h
  clear h
  by_cases hbig : 1048576 < n
  · go_enter Try.func8, Try.ntmps8
    go_wp2_with fail
    go_ret
    exact ⟨rfl, ext_refl _⟩
  go_enter Try.func8, Try.ntmps8
  go_wp2_with fail
  refine (spec_DrawWaitUntil a n cap w H.out).mono ?_
  rintro e w1 ⟨v1, v2, p, l, rfl, hV, hU, hl16, hl6, h0, h7, htm, hb1⟩
  have E := hb1
  clear hb1
  obtain ⟨a1, c1, rfl, -⟩ := hV.open
  have V := Lib.hid hV
  clear hV
  obtain ⟨a2, c2, rfl, -⟩ := hU.open
  have U := Lib.hid hU
  clear hU
  go_upto_region 4 with fail
  obtain ⟨w2, hw2, A0, hs2, hb2⟩ := one_box w1 #[.int .i64 p.pts, .slice a1 p.bs.length c1] 25
  rw [← hw2.out]
  have V := Lib.hid (V.out.ext hb2)
  have U := Lib.hid (U.out.ext hb2)
  have E := ext_trans E hb2
  clear hb2
  have Htm := Lib.hid htm
  clear htm
  obtain ⟨N, hN⟩ : ∃ N, Hid (N = l.length) := ⟨_, rfl⟩
  rw [← hN.out] at hl6 U ⊢
  have hncl : N ≤ c2 ∧ c2 ≤ 9223372036854775807 := by obtain ⟨_, _, he, h1, h2, -⟩ := U.out.open; cases he; rw [hN.out]; exact ⟨h1, h2⟩
  obtain ⟨rcA0, rzA0⟩ := (A0).rules; have rlA0 := (A0).lt
  go_wp2_with fail
  obtain ⟨z, hz⟩ : ∃ z, Hid (z = p.waitU l) := ⟨_, rfl⟩
  have hzz : (z != z) = false := by simp
  refine (impl_WaitUntil p _ _ l _ (V.out.base (Nat.zero_le _)) (U.out.base (Nat.zero_le _)) (by rw [← hN.out]; omega)).mono ?_
  rintro e w3 ⟨rfl, hb3⟩
  clear rcA0 rzA0 rlA0
  have A0 := A0.ext hb3
  have V := Lib.hid (V.out.ext hb3)
  have U := Lib.hid (U.out.ext hb3)
  have E := ext_trans E hb3
  clear hb3
  rw [← hz.out]
  obtain ⟨rcA0, rzA0⟩ := (A0).rules; have rlA0 := (A0).lt
  go_wp2_with fail
  refine (spec_WaitUntil p _ _ l _ (V.out.base (Nat.zero_le _)) (U.out.base (Nat.zero_le _)) (by rw [← hN.out]; omega)).mono ?_
  rintro e w4 ⟨rfl, hb4⟩
  clear rcA0 rzA0 rlA0
  have A0 := A0.ext hb4
  have V := Lib.hid (V.out.ext hb4)
  have U := Lib.hid (U.out.ext hb4)
  have E := ext_trans E hb4
  clear hb4
  rw [← hz.out]
  obtain ⟨rcA0, rzA0⟩ := (A0).rules; have rlA0 := (A0).lt
  cases hd : (p.heard l && p.goes (lastT l) (doneL p.n l))
  · have hz1 : z = -1 := by rw [hz.out]; unfold Pl.waitU; rw [hd]; rfl
    have hzb : (z == -1) = true := by simp [hz1]
    have hz0 : z < 0 := by omega
    have Hz1 := Lib.hid hz1
    clear hz1 hd
    go_wp2_with fail
    refine (laws_alive _).mono ?_
    rintro e w5 ⟨rfl, hb5⟩
    clear rcA0 rzA0 rlA0
    have A0 := A0.ext hb5
    have V := Lib.hid (V.out.ext hb5)
    have U := Lib.hid (U.out.ext hb5)
    have E := ext_trans E hb5
    clear hb5
    go_wp2_with fail
    go_ret
    exact ⟨rfl, E⟩
  rw [Bool.and_eq_true] at hd
  have hlaw := wait_law hd.1 hd.2
  have hzv := wait_yes hd.1 hd.2
  rw [← hzv, ← hz.out] at hlaw
  obtain ⟨l1, l2, l3⟩ := hlaw
  have hl0 := (last_in hd.1).1
  have Hd := Lib.hid hd
  have L3 := Lib.hid l3
  have L1 := Lib.hid l1
  have Hzv := Lib.hid hzv
  have hz0 : 0 ≤ z := by omega
  clear hd l3 hzv l1 hl0
  go_wp2_with fail
  obtain ⟨v, hv⟩ : ∃ v, Hid (v = p.verdict l z) := ⟨_, rfl⟩
  obtain ⟨u, hu⟩ : ∃ v, Hid (v = p.verdict l (z + 1)) := ⟨_, rfl⟩
  refine (impl_VerdictOf p _ _ l z _ (V.out.base (Nat.zero_le _)) (U.out.base (Nat.zero_le _)) (by rw [← hN.out]; omega)).mono ?_
  rintro e w5 ⟨rfl, hb5⟩
  clear rcA0 rzA0 rlA0
  have A0 := A0.ext hb5
  have V := Lib.hid (V.out.ext hb5)
  have U := Lib.hid (U.out.ext hb5)
  have E := ext_trans E hb5
  clear hb5
  rw [← hv.out]
  obtain ⟨rcA0, rzA0⟩ := (A0).rules; have rlA0 := (A0).lt
  go_wp2_with fail
  refine (impl_VerdictOf p _ _ l (z + 1) _ (V.out.base (Nat.zero_le _)) (U.out.base (Nat.zero_le _)) (by rw [← hN.out]; omega)).mono ?_
  rintro e w6 ⟨rfl, hb6⟩
  clear rcA0 rzA0 rlA0
  have A0 := A0.ext hb6
  have V := Lib.hid (V.out.ext hb6)
  have U := Lib.hid (U.out.ext hb6)
  have E := ext_trans E hb6
  clear hb6
  rw [← hu.out]
  have hvu : Hid ((v = 0 ∧ z = 2000) ∨ (v = 1 ∧ (z = 2000 ∨ u = 2))) := by
    have hn2 : p.verdict l z ≠ 2 := fun h => by have := (L3.out z L1.out l2).1 h; omega
    have hnm : p.verdict l z ≠ -1 := fun h => (verdict_in.1.1 h) ⟨Hd.out.1, L1.out, l2⟩
    have hval := verdict_val p l z
    rw [← hv.out] at hn2 hnm hval
    refine Lib.hid ?_
    rcases hval with h | h | h | h
    · exact absurd h hnm
    · refine .inl ⟨h, ?_⟩
      have hk := (verdict_in.2.2.1.1 (hv.out.symm.trans h)).2.2
      have := dead_all Hd.out.1 hk
      rw [hz.out, Hzv.out, this]; rfl
    · refine .inr ⟨h, ?_⟩
      by_cases e : z = 2000
      · exact .inl e
      · refine .inr ?_
        rw [hu.out]
        exact (L3.out (z + 1) (by have := L1.out; omega) (by omega)).2 (by omega)
    · exact absurd h hn2
  rcases hvu.out with ⟨h1, h2⟩ | ⟨h1, h2⟩
  · have hb1 : (v == 0) = true := by simp [h1]
    have hb2 : (v != 0) = false := by simp [h1]
    have hb3 : (z == 2000) = true := by simp [h2]
    clear h1 h2
    go_wp2_with fail
    go_ret
    exact ⟨rfl, E⟩
  · have hb1 : (v == 0) = false := by simp [h1]
    have hb2 : (v != 0) = true := by simp [h1]
    have hb4 : (v == 1) = true := by simp [h1]
    clear h1
    by_cases h3 : z = 2000
    · have hb3 : (z == 2000) = true := by simp [h3]
      clear h2 h3
      go_wp2_with fail
      go_ret
      exact ⟨rfl, E⟩
    · have hb3 : (z == 2000) = false := by simp [h3]
      have hb5 : (u == 2) = true := by rcases h2 with h | h; exact absurd h h3; simp [h]
      clear h2 h3
      go_wp2_with fail
      go_ret
      exact ⟨rfl, E⟩
end Go.Proofs.Ytffcfambgcaikaa
