/- The walks of BrokenOf and MovedBy of impl. Conditions: the bounds and the times can be read, the bounds are at most a million. -/
import Derived.Test.YtcjdodjjdchnaaaKeepMath
namespace Go.Proofs.Ytcjdodjjdchnaaa
open Go.RowKit
set_option linter.unusedVariables false
set_option linter.unusedSimpArgs false
set_option maxRecDepth 100000 in
set_option maxHeartbeats 4000000 in
theorem impl_BrokenOf (p : Pl) (v1 v2 : Value) (l : List Int) (w : World) (hp : Bds w 0 v1 p.bs) (hv : Ints w 0 v2 l) (hlen : p.bs.length ≤ 4000000) :
    Calls Try.prog 49 #[.agg #[.int .i64 p.pts, v1], v2] w (RetInts w (broken p l)) := by
  have HP := Lib.hid hp; have HV := Lib.hid hv
  obtain ⟨a1, c1, rfl, hn1, hc1, -⟩ := hp.open
  obtain ⟨a2, c2, rfl, hn2, hc2, -⟩ := hv.open
  clear hp hv
  go_enter Try.func49, Try.ntmps49
  go_wp2_with fail
  obtain ⟨W, hW, A0, hs, E⟩ := one_box w #[.int .i64 p.pts, .slice a1 p.bs.length c1] 25
  rw [← hW.out]
  refine (impl_TimesOk p _ _ l _ (HP.out.ext E) (HV.out.ext E)).mono ?_
  rintro e w1 ⟨rfl, hb1⟩
  have A0 := A0.ext hb1
  have E := ext_trans E hb1
  obtain ⟨rc0, rz0⟩ := (A0).rules; have rl0 := (A0).lt
  cases ht : timesOk p l
  · have hf : Hid (broken p l = []) := Lib.hid (if_neg (by rw [ht]; simp))
    clear ht
    go_wp2_with fail
    go_ret
    exact ⟨_, rfl, by rw [hf.out]; exact Ints.nil _ _, E⟩
  have hf : Hid (broken p l = brokenTo p l p.bs.length) := Lib.hid (if_pos ht)
  have Hin := Lib.hid (times_in ht)
  have q1 := E.size
  clear ht hb1
  go_wp2_with fail
  clear rc0 rz0 rl0
  go_loopg [5, 15] p.bs.length (fun m vo kk wr => ∃ k : Nat, k ≤ p.bs.length ∧ m = p.bs.length - k ∧ kk = .int .i64 k ∧ Hid (Ints wr w1.heap.size vo (brokenTo p l k)) ∧ Below w1.heap.size w1 wr)
  case atStart => exact ⟨0, by omega, by omega, rfl, Lib.hid (Ints.nil _ _), ext_refl _⟩
  case round =>
    obtain ⟨k, hk, hgk, rfl, O, hb⟩ := hrel
    have Hk := Lib.hid hgk
    clear hgk
    have hol := brokenTo_len p l k
    obtain ⟨ao, co, rfl, -⟩ := O.out.open
    by_cases hlk : k < p.bs.length
    · have E1 := ext_trans E hb
      obtain ⟨g, ha, _, hg, _, x0, x1, x2⟩ := (HP.out.ext E1).at_ hlk
      subst ha
      have hbin := Hin.out.2.2.2 (p.bs.getD k Bd.z) (by rw [List.getD_eq_getElem?_getD, List.getElem?_eq_getElem hlk]; exact List.getElem_mem hlk)
      obtain ⟨b, Hb⟩ : ∃ b, Hid (b = p.bs.getD k Bd.z) := ⟨_, rfl⟩
      rw [← Hb.out] at x0 x1 x2 hbin
      have Hbin := Lib.hid hbin
      have hnx : Hid (brokenTo p l (k+1) = brokenTo p l k ++ (if keptB l b then [] else [(k : Int)])) := by rw [Hb.out]; exact Lib.hid rfl
      clear hbin
      go_upto_region 7 with fail
      obtain ⟨w4, hw4, B4, hs4, E4⟩ := one_box wr #[.int .i64 b.f, .int .i64 b.t, .int .i64 b.m] 40
      rw [← hw4.out]
      have O := Lib.hid (O.out.ext E4)
      have hb := ext_trans hb E4
      have E1 := ext_trans E1 E4
      clear x0 x1 x2 E4
      obtain ⟨rc4, rz4⟩ := (B4).rules; have rl4 := (B4).lt
      go_wp2_with fail
      refine (impl_keptBy b _ l _ (HV.out.ext E1) Hin.out.2.2.1 Hbin.out).mono ?_
      rintro e w5 ⟨rfl, hb5⟩
      have O := Lib.hid (O.out.ext hb5)
      have hb := ext_trans hb hb5
      clear rc4 rz4 rl4 hb5 B4 E1
      cases hkb : keptB l b
      · have hnx2 : Hid (brokenTo p l (k+1) = brokenTo p l k ++ [(k : Int)]) := by rw [hnx.out, hkb]; exact Lib.hid rfl
        clear hkb
        go_wp2_with (at_builtin; refine wpl_appI _ rfl (.tmp 24) (.tmp 26) rfl w1.heap.size 0 (.slice ao (brokenTo p l k).length co) (brokenTo p l k) rfl (O.out.alloc _) (.slice (some ⟨w5.heap.size, 0, none⟩) 1 1) [(k : Int)] rfl ((Ints.lit w5 k).base (Nat.zero_le _)) (by simp; omega) (by have := hb.size; simp; omega) ?_; intro v9 w9 hv9 hg9)
        have hb := ext_grown (ext_alloc hb _) hg9 (fun q hq => (O.out.lt q hq).1)
        rw [← hnx2.out] at hv9
        go_roundg (p.bs.length - (k+1))
        case rel => exact ⟨k+1, by omega, rfl, by go_num, Lib.hid hv9, hb⟩
        case measure => have := Hk.out; omega
      · have hnx2 : Hid (brokenTo p l (k+1) = brokenTo p l k) := by rw [hnx.out, hkb]; simp; exact Lib.hid trivial
        clear hkb
        go_wp2_with fail
        go_roundg (p.bs.length - (k+1))
        case rel => exact ⟨k+1, by omega, rfl, by go_num, by rw [hnx2.out]; exact O, hb⟩
        case measure => have := Hk.out; omega
    · have hkl : k = p.bs.length := by omega
      have hf2 : Hid (broken p l = brokenTo p l k) := by rw [hf.out, hkl]; exact Lib.hid rfl
      clear hkl
      go_wp2_with fail
      go_ret
      exact ⟨_, rfl, by rw [hf2.out]; exact O.out.base (by omega), ext_trans E hb⟩
set_option maxRecDepth 100000 in
set_option maxHeartbeats 4000000 in
theorem impl_MovedBy (p : Pl) (v1 v2 : Value) (l : List Int) (c : Int) (w : World) (hp : Bds w 0 v1 p.bs) (hv : Ints w 0 v2 l) :
    Calls Try.prog 48 #[.agg #[.int .i64 p.pts, v1], v2, .int .i64 c] w (RetIntsB w (moved p l c) (movedOk p l c)) := by
  have HP := Lib.hid hp; have HV := Lib.hid hv
  obtain ⟨a1, c1, rfl, hn1, hc1, -⟩ := hp.open
  obtain ⟨a2, c2, rfl, hn2, hc2, -⟩ := hv.open
  clear hp hv
  go_enter Try.func48, Try.ntmps48
  go_wp2_with fail
  obtain ⟨W, hW, A0, hs, E⟩ := one_box w #[.int .i64 p.pts, .slice a1 p.bs.length c1] 25
  rw [← hW.out]
  refine (impl_TimesOk p _ _ l _ (HP.out.ext E) (HV.out.ext E)).mono ?_
  rintro e w1 ⟨rfl, hb1⟩
  have A0 := A0.ext hb1
  have E := ext_trans E hb1
  obtain ⟨rc0, rz0⟩ := (A0).rules; have rl0 := (A0).lt
  cases ht : timesOk p l
  · have hf : Hid (movedOk p l c = false) := by unfold movedOk; rw [ht]; exact Lib.hid rfl
    have hm : Hid (moved p l c = []) := Lib.hid (if_neg (by rw [hf.out]; simp))
    clear ht
    go_wp2_with fail
    go_ret2
    exact ⟨_, by rw [hf.out]; rfl, by rw [hm.out]; exact Ints.nil _ _, E⟩
  have Ht := Lib.hid ht
  have Hin := Lib.hid (times_in ht)
  have q1 := E.size
  clear ht hb1
  go_wp2_with fail
  refine (impl_in _ _ _ _).mono ?_
  rintro e w2 ⟨rfl, rfl⟩
  cases hc : inB c (-2000) 2000
  · have hf : Hid (movedOk p l c = false) := by unfold movedOk; rw [hc, Bool.and_false]; exact Lib.hid rfl
    have hm : Hid (moved p l c = []) := Lib.hid (if_neg (by rw [hf.out]; simp))
    clear hc
    go_wp2_with fail
    go_ret2
    exact ⟨_, by rw [hf.out]; rfl, by rw [hm.out]; exact Ints.nil _ _, E⟩
  have hcc := (inB_iff _ _ _).1 hc
  have hf : Hid (movedOk p l c = timesOk p (movedL l c)) := by unfold movedOk; rw [hc, Ht.out]; exact Lib.hid rfl
  have hl6 : l.length ≤ 6 := by
    have h1 := Hin.out.1
    have h2 := Hin.out.2.1
    simp only [Pl.ok, Bool.and_eq_true, inB_iff] at h1
    omega
  clear hc
  go_wp2_with fail
  clear rc0 rz0 rl0
  have hll : (movedL l c).length = l.length := List.length_map _
  have Hll := Lib.hid hll
  clear hll
  go_loopg [8, 22] l.length (fun m vo kk wr => ∃ k : Nat, k ≤ l.length ∧ m = l.length - k ∧ kk = .int .i64 k ∧ Hid (Ints wr w1.heap.size vo ((movedL l c).take k)) ∧ Below w1.heap.size w1 wr)
  case atStart => exact ⟨0, by omega, by omega, rfl, Lib.hid (Ints.nil _ _), ext_refl _⟩
  case round =>
    obtain ⟨k, hk, hgk, rfl, O, hb⟩ := hrel
    have Hk := Lib.hid hgk
    clear hgk
    have htl : ((movedL l c).take k).length = k := by rw [List.length_take, Hll.out]; omega
    obtain ⟨ao, co, rfl, -⟩ := O.out.open
    rw [htl] at O ⊢
    have E1 := ext_trans E hb
    have A1 := A0.ext hb
    by_cases hlk : k < l.length
    · obtain ⟨g, ha, _, hg, _, cx⟩ := (HV.out.ext E1).at_ hlk
      subst ha
      obtain ⟨x, Hx⟩ : ∃ x, Hid (x = l.getD k 0) := ⟨_, rfl⟩
      have hx := Hin.out.2.2.1 k hlk
      rw [← Hx.out] at cx hx
      have hw : IntKind.i64.wrap (x + c) = x + c := IntWalk.i64_in _ (by omega)
      have hnx : Hid ((movedL l c).take (k+1) = (movedL l c).take k ++ [x + c]) := by
        have hkl : k < (movedL l c).length := by rw [Hll.out]; exact hlk
        rw [List.take_add_one, List.getElem?_eq_getElem hkl]
        refine Lib.hid (congrArg (fun z => (movedL l c).take k ++ [z]) ?_)
        have := map_at (f := (· + c)) hlk
        rw [List.getD_eq_getElem?_getD, show (l.map (· + c)) = movedL l c from rfl, List.getElem?_eq_getElem hkl] at this
        rw [Hx.out]; exact this
      go_wp2_with (at_builtin; refine wpl_appI _ rfl (.tmp 26) (.tmp 30) rfl w1.heap.size 0 (.slice ao k co) ((movedL l c).take k) rfl (O.out.alloc _) (.slice (some ⟨wr.heap.size, 0, none⟩) 1 1) [x + c] rfl ((Ints.lit wr _).base (Nat.zero_le _)) (by rw [htl]; simp; omega) (by have := hb.size; simp; omega) ?_; intro v9 w9 hv9 hg9)
      have hb := ext_grown (ext_alloc hb _) hg9 (fun q hq => (O.out.lt q hq).1)
      rw [← hnx.out] at hv9
      go_roundg (l.length - (k+1))
      case rel => exact ⟨k+1, by omega, rfl, by go_num, Lib.hid hv9, hb⟩
      case measure => have := Hk.out; omega
    · have hkl : k = l.length := by omega
      have O : Hid (Ints wr w1.heap.size (.slice ao k co) (movedL l c)) := by
        have h := O.out
        rw [show (movedL l c).take k = movedL l c by rw [hkl, ← Hll.out, List.take_length]] at h
        exact Lib.hid h
      clear hkl htl
      obtain ⟨rc0, rz0⟩ := (A1).rules; have rl0 := (A1).lt
      go_wp2_with fail
      refine (impl_TimesOk p _ _ (movedL l c) _ (HP.out.ext E1) (O.out.base (Nat.zero_le _))).mono ?_
      rintro e w5 ⟨rfl, hb5⟩
      have O := Lib.hid (O.out.ext hb5)
      have E1 := ext_trans E1 hb5
      cases ht2 : timesOk p (movedL l c)
      · have hf2 : Hid (movedOk p l c = false) := by rw [hf.out]; exact Lib.hid ht2
        have hm : Hid (moved p l c = []) := Lib.hid (if_neg (by rw [hf2.out]; simp))
        clear ht2
        go_wp2_with fail
        go_ret2
        exact ⟨_, by rw [hf2.out]; rfl, by rw [hm.out]; exact Ints.nil _ _, E1⟩
      · have hf2 : Hid (movedOk p l c = true) := by rw [hf.out]; exact Lib.hid ht2
        have hm : Hid (moved p l c = movedL l c) := Lib.hid (if_pos hf2.out)
        clear ht2
        go_wp2_with fail
        go_ret2
        exact ⟨_, by rw [hf2.out]; rfl, by rw [hm.out]; exact O.out.base (by omega), E1⟩
end Go.Proofs.Ytcjdodjjdchnaaa
