/- The walk of FnKeepsOk: it returns true, whatever code came in. Condition: the code can be read. -/
import Derived.Test.YtcjdodjjdchnaaaTimed
import Derived.Test.YtcjdodjjdchnaaaKeepBrk
import Derived.Test.YtcjdodjjdchnaaaLawInts
import Derived.Test.YtcjdodjjdchnaaaSame
namespace Go.Proofs.Ytcjdodjjdchnaaa
open Go.RowKit
set_option linter.unusedVariables false
set_option linter.unusedSimpArgs false
set_option maxRecDepth 100000 in
set_option maxHeartbeats 8000000 in
theorem walk_KeepsOk (a : Option Addr) (n cap : Nat) (w : World) (h : Byt w w.heap.size a n cap) :
    Calls Try.prog 10 #[.slice a n cap] w fun e w' => e = .returned (.bool true) ∧ Below w.heap.size w w' := by
  have H := Lib.hid h
  obtain ⟨hncap, hcap, -⟩ := id h
  clear h
  by_cases hbig : 1048576 < n
  · go_enter Try.func10, Try.ntmps10
    go_wp2_with fail
    go_ret
    exact ⟨rfl, ext_refl _⟩
  go_enter Try.func10, Try.ntmps10
  go_wp2_with fail
  refine (spec_DrawKeepsOk a n cap w H.out).mono ?_
  rintro e w1 ⟨v1, v2, p, l, rfl, hV, hU, hl10, hl8, h0, h7, hb1⟩
  have E := hb1
  clear hb1
  obtain ⟨a1, c1, rfl, -⟩ := hV.open
  have V := Lib.hid hV
  clear hV
  obtain ⟨a2, c2, rfl, -⟩ := hU.open
  have U := Lib.hid hU
  clear hU
  go_upto_region 4 with fail
  obtain ⟨w2, hw2, A0, hs2, hb2⟩ := one_box w1 #[.int .i64 p.pts, .slice a1 p.bs.length c1] 25
  rw [← hw2.out]
  have V := Lib.hid (V.out.ext hb2)
  have U := Lib.hid (U.out.ext hb2)
  have E := ext_trans E hb2
  clear hb2
  obtain ⟨rcA0, rzA0⟩ := (A0).rules; have rlA0 := (A0).lt
  go_wp2_with fail
  obtain ⟨ok, hok⟩ : ∃ ok, Hid (ok = keeps p l) := ⟨_, rfl⟩
  refine (impl_KeepsOk p _ _ l _ (V.out.base (Nat.zero_le _)) (U.out.base (Nat.zero_le _))).mono ?_
  rintro e w3 ⟨rfl, hb3⟩
  clear rcA0 rzA0 rlA0
  have A0 := A0.ext hb3
  have V := Lib.hid (V.out.ext hb3)
  have U := Lib.hid (U.out.ext hb3)
  have E := ext_trans E hb3
  clear hb3
  rw [← hok.out]
  obtain ⟨rcA0, rzA0⟩ := (A0).rules; have rlA0 := (A0).lt
  go_wp2_with fail
  refine (spec_KeepsOk p _ _ l _ (V.out.base (Nat.zero_le _)) (U.out.base (Nat.zero_le _))).mono ?_
  rintro e w4 ⟨rfl, hb4⟩
  clear rcA0 rzA0 rlA0
  have A0 := A0.ext hb4
  have V := Lib.hid (V.out.ext hb4)
  have U := Lib.hid (U.out.ext hb4)
  have E := ext_trans E hb4
  clear hb4
  rw [← hok.out]
  have hoo : (ok != ok) = false := by simp
  obtain ⟨rcA0, rzA0⟩ := (A0).rules; have rlA0 := (A0).lt
  go_wp2_with fail
  refine (spec_TimesOk p _ _ l _ (V.out.base (Nat.zero_le _)) (U.out.base (Nat.zero_le _))).mono ?_
  rintro e w5 ⟨rfl, hb5⟩
  clear rcA0 rzA0 rlA0
  have A0 := A0.ext hb5
  have V := Lib.hid (V.out.ext hb5)
  have U := Lib.hid (U.out.ext hb5)
  have E := ext_trans E hb5
  clear hb5
  obtain ⟨rcA0, rzA0⟩ := (A0).rules; have rlA0 := (A0).lt
  cases ht : timesOk p l
  · have hof : ok = false := by rw [hok.out]; unfold keeps; rw [ht]; rfl
    clear ht
    rw [hof]
    go_wp2_with fail
    refine (laws_alive _).mono ?_
    rintro e w6 ⟨rfl, hb6⟩
    clear rcA0 rzA0 rlA0
    have A0 := A0.ext hb6
    have V := Lib.hid (V.out.ext hb6)
    have U := Lib.hid (U.out.ext hb6)
    have E := ext_trans E hb6
    clear hb6
    go_wp2_with fail
    go_ret
    exact ⟨rfl, E⟩
  have Ht := Lib.hid ht
  have Hin := Lib.hid (times_in ht)
  clear ht
  clear rcA0 rzA0 rlA0
  go_upto_region 10 with fail
  obtain ⟨wy, hwy, T0, hsy, E5⟩ := one_box w5 #[] 3
  rw [← hwy.out]
  have O : Hid (Ints wy w5.heap.size (.slice (some ⟨w5.heap.size, 0, none⟩) 0 0) ((otherL l).take 0)) := Lib.hid (Ints.ofBox T0 (Nat.le_refl _))
  have hll : (otherL l).length = l.length := List.length_map _
  have Hll := Lib.hid hll
  clear T0 hll
  go_wp2_with fail
  go_loopg [6, 7] l.length (fun m vo kk wx => ∃ k : Nat, k ≤ l.length ∧ m = l.length - k ∧ kk = .int .i64 k ∧ Hid (Ints wx w5.heap.size vo ((otherL l).take k)) ∧ Below w5.heap.size w5 wx)
  case atStart => exact ⟨0, by omega, by omega, rfl, O, E5⟩
  case round =>
    clear O E5
    rename World => wx
    obtain ⟨k, hk, hgk, rfl, O, hb⟩ := hrel
    have Hk := Lib.hid hgk
    clear hgk
    have htl : ((otherL l).take k).length = k := by rw [List.length_take, Hll.out]; omega
    obtain ⟨ao, co, rfl, -⟩ := O.out.open
    rw [htl] at O ⊢
    by_cases hlt : k < l.length
    · obtain ⟨g3, ha3, _, hg3, _, cx⟩ := (U.out.ext hb).at_ hlt
      subst ha3
      obtain ⟨x, Hx⟩ : ∃ x, Hid (x = l.getD k 0) := ⟨_, rfl⟩
      rw [← Hx.out] at cx
      have hx := Hin.out.2.2.1 k hlt
      rw [← Hx.out] at hx
      have hw : IntKind.i64.wrap (-x) = -x := IntWalk.i64_in _ (by omega)
      have hnx : Hid ((otherL l).take (k+1) = (otherL l).take k ++ [-x]) := by
        have hkl : k < (otherL l).length := by rw [Hll.out]; exact hlt
        rw [List.take_add_one, List.getElem?_eq_getElem hkl]
        refine Lib.hid (congrArg (fun z => (otherL l).take k ++ [z]) ?_)
        have := map_at (f := fun x => -x) hlt
        rw [List.getD_eq_getElem?_getD, show (l.map (fun x => -x)) = otherL l from rfl, List.getElem?_eq_getElem hkl] at this
        rw [Hx.out]; exact this
      go_wp2_with (at_builtin; refine wpl_appI _ rfl (.tmp 42) (.tmp 48) rfl w5.heap.size 0 (.slice ao k co) ((otherL l).take k) rfl (O.out.alloc _) (.slice (some ⟨wx.heap.size, 0, none⟩) 1 1) [-x] rfl ((Ints.lit wx _).base (Nat.zero_le _)) (by rw [htl]; simp; omega) (by have := hb.size; simp; omega) ?_; intro v9 w9 hv9 hg9)
      have hb := ext_grown (ext_alloc hb _) hg9 (fun q hq => (O.out.lt q hq).1)
      rw [← hnx.out] at hv9
      go_roundg (l.length - (k+1))
      case rel => exact ⟨k+1, by omega, rfl, by go_num, Lib.hid hv9, hb⟩
      case measure => have := Hk.out; omega
    · have hkl : k = l.length := by omega
      have Lr : Hid (Ints wx w5.heap.size (.slice ao k co) (otherL l)) := by
        have h := O.out
        rw [show (otherL l).take k = otherL l by rw [hkl, ← Hll.out, List.take_length]] at h
        exact Lib.hid h
      clear O hkl htl
      have A0 := A0.ext hb
      have V := Lib.hid (V.out.ext hb)
      have U := Lib.hid (U.out.ext hb)
      have E := ext_trans E hb
      clear hb
      obtain ⟨rcA0, rzA0⟩ := (A0).rules; have rlA0 := (A0).lt
      go_wp2_with fail
      have hmk := fun h => moved_keeps (p := p) (l := l) (c := 7) h
      obtain ⟨can, Hcan⟩ : ∃ can, Hid (can = movedOk p l 7) := ⟨_, rfl⟩
      obtain ⟨M, HM⟩ : ∃ M, Hid (M = moved p l 7) := ⟨_, rfl⟩
      refine (impl_MovedBy p _ _ l 7 _ (V.out.base (Nat.zero_le _)) (U.out.base (Nat.zero_le _))).mono ?_
      rintro e w6 ⟨vM, rfl, hMr, hb6⟩
      clear rcA0 rzA0 rlA0
      have A0 := A0.ext hb6
      have V := Lib.hid (V.out.ext hb6)
      have U := Lib.hid (U.out.ext hb6)
      have Lr := Lib.hid (Lr.out.ext hb6)
      have E := ext_trans E hb6
      clear hb6
      rw [← HM.out] at hMr
      obtain ⟨aM, cM, rfl, -⟩ := hMr.open
      have Mr := Lib.hid hMr
      clear hMr
      rw [← Hcan.out]
      obtain ⟨rcA0, rzA0⟩ := (A0).rules; have rlA0 := (A0).lt
      go_wp2_with fail
      obtain ⟨Bn, HBn⟩ : ∃ B, Hid (B = broken p l) := ⟨_, rfl⟩
      refine (impl_BrokenOf p _ _ l _ (V.out.base (Nat.zero_le _)) (U.out.base (Nat.zero_le _)) (by omega)).mono ?_
      rintro e w7 ⟨vB, rfl, hBr, hb7⟩
      clear rcA0 rzA0 rlA0
      have A0 := A0.ext hb7
      have V := Lib.hid (V.out.ext hb7)
      have U := Lib.hid (U.out.ext hb7)
      have Lr := Lib.hid (Lr.out.ext hb7)
      have Mr := Lib.hid (Mr.out.ext hb7)
      have E := ext_trans E hb7
      clear hb7
      rw [← HBn.out] at hBr
      obtain ⟨aB, cB, rfl, -⟩ := hBr.open
      clear hBr
      have hb1 : (((Bn.length : Nat) : Int) == 0) = ok := by
        rw [hok.out, broken_keeps Ht.out, ← HBn.out]
        by_cases hz : Bn.length = 0
        · rw [hz]; rfl
        · rw [decide_eq_false hz]; exact beq_false_of_ne (by omega)
      have hee : (ok == ok) = true := by simp
      obtain ⟨rcA0, rzA0⟩ := (A0).rules; have rlA0 := (A0).lt
      cases hcan : can
      · clear hcan
        go_wp2_with fail
        refine (impl_TurnedPlan p _ _ (V.out.base (Nat.zero_le _)) (by omega)).mono ?_
        rintro e w8 ⟨vT, rfl, hTr, hb8⟩
        clear rcA0 rzA0 rlA0
        have A0 := A0.ext hb8
        have V := Lib.hid (V.out.ext hb8)
        have U := Lib.hid (U.out.ext hb8)
        have Lr := Lib.hid (Lr.out.ext hb8)
        have Mr := Lib.hid (Mr.out.ext hb8)
        have E := ext_trans E hb8
        clear hb8
        obtain ⟨T, HT⟩ : ∃ T, Hid (T = p.turned) := ⟨_, rfl⟩
        rw [← HT.out] at hTr ⊢
        obtain ⟨aT, cT, rfl, -⟩ := hTr.open
        have Tr := Lib.hid hTr
        clear hTr
        obtain ⟨rcA0, rzA0⟩ := (A0).rules; have rlA0 := (A0).lt
        go_wp2_with fail
        refine (impl_KeepsOk T _ _ (otherL l) _ (Tr.out.base (Nat.zero_le _)) (Lr.out.base (Nat.zero_le _))).mono ?_
        rintro e w9 ⟨rfl, hb9⟩
        clear rcA0 rzA0 rlA0
        have A0 := A0.ext hb9
        have V := Lib.hid (V.out.ext hb9)
        have U := Lib.hid (U.out.ext hb9)
        have Lr := Lib.hid (Lr.out.ext hb9)
        have Mr := Lib.hid (Mr.out.ext hb9)
        have Tr := Lib.hid (Tr.out.ext hb9)
        have E := ext_trans E hb9
        clear hb9
        rw [show keeps T (otherL l) = ok by rw [HT.out, other_keeps Ht.out, hok.out]]
        go_wp2_with fail
        go_ret
        exact ⟨rfl, E⟩
      · have hk2 : Hid (keeps p M = ok) := by rw [HM.out, hmk (by rw [← Hcan.out]; exact hcan), hok.out]; exact Lib.hid rfl
        clear hcan hmk
        go_wp2_with fail
        refine (impl_KeepsOk p _ _ M _ (V.out.base (Nat.zero_le _)) (Mr.out.base (Nat.zero_le _))).mono ?_
        rintro e w8 ⟨rfl, hb8⟩
        clear rcA0 rzA0 rlA0
        have A0 := A0.ext hb8
        have V := Lib.hid (V.out.ext hb8)
        have U := Lib.hid (U.out.ext hb8)
        have Lr := Lib.hid (Lr.out.ext hb8)
        have Mr := Lib.hid (Mr.out.ext hb8)
        have E := ext_trans E hb8
        clear hb8
        rw [hk2.out]
        obtain ⟨rcA0, rzA0⟩ := (A0).rules; have rlA0 := (A0).lt
        go_wp2_with fail
        refine (impl_TurnedPlan p _ _ (V.out.base (Nat.zero_le _)) (by omega)).mono ?_
        rintro e w9 ⟨vT, rfl, hTr, hb9⟩
        clear rcA0 rzA0 rlA0
        have A0 := A0.ext hb9
        have V := Lib.hid (V.out.ext hb9)
        have U := Lib.hid (U.out.ext hb9)
        have Lr := Lib.hid (Lr.out.ext hb9)
        have Mr := Lib.hid (Mr.out.ext hb9)
        have E := ext_trans E hb9
        clear hb9
        obtain ⟨T, HT⟩ : ∃ T, Hid (T = p.turned) := ⟨_, rfl⟩
        rw [← HT.out] at hTr ⊢
        obtain ⟨aT, cT, rfl, -⟩ := hTr.open
        have Tr := Lib.hid hTr
        clear hTr
        obtain ⟨rcA0, rzA0⟩ := (A0).rules; have rlA0 := (A0).lt
        go_wp2_with fail
        refine (impl_KeepsOk T _ _ (otherL l) _ (Tr.out.base (Nat.zero_le _)) (Lr.out.base (Nat.zero_le _))).mono ?_
        rintro e w10 ⟨rfl, hb10⟩
        clear rcA0 rzA0 rlA0
        have A0 := A0.ext hb10
        have V := Lib.hid (V.out.ext hb10)
        have U := Lib.hid (U.out.ext hb10)
        have Lr := Lib.hid (Lr.out.ext hb10)
        have Mr := Lib.hid (Mr.out.ext hb10)
        have Tr := Lib.hid (Tr.out.ext hb10)
        have E := ext_trans E hb10
        clear hb10
        rw [show keeps T (otherL l) = ok by rw [HT.out, other_keeps Ht.out, hok.out]]
        go_wp2_with fail
        go_ret
        exact ⟨rfl, E⟩
end Go.Proofs.Ytcjdodjjdchnaaa
