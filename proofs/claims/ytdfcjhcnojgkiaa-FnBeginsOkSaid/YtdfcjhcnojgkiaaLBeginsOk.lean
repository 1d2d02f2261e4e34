/- The walk of FnBeginsOk: it returns true, whatever code came in. Condition: the code can be read. -/
import Derived.Test.YtdfcjhcnojgkiaaBegun
import Derived.Test.YtdfcjhcnojgkiaaBegMath
import Derived.Test.YtdfcjhcnojgkiaaLawInts
import Derived.Test.YtdfcjhcnojgkiaaSame
namespace Go.Proofs.Ytdfcjhcnojgkiaa
open Go.RowKit
set_option linter.unusedVariables false
set_option linter.unusedSimpArgs false
set_option maxRecDepth 100000 in
set_option maxHeartbeats 8000000 in
theorem walk_BeginsOk (a : Option Addr) (n cap : Nat) (w : World) (h : Byt w w.heap.size a n cap) :
    Calls Try.prog 7 #[.slice a n cap] w fun e w' => e = .returned (.bool true) ∧ Below w.heap.size w w' := by
  have H := Lib.hid h
  obtain ⟨hncap, hcap, -⟩ := id h
  clear h
  by_cases hbig : 1048576 < n
  · go_enter Try.func7, Try.ntmps7
    go_wp2_with fail
    go_ret
    exact ⟨rfl, ext_refl _⟩
  go_enter Try.func7, Try.ntmps7
  go_wp2_with fail
  refine (spec_DrawBeginsOk a n cap w H.out).mono ?_
  rintro e w1 ⟨v1, v2, v3, l, t, b, hd, rfl, hV, hU, hB, hl8, ht8, hb8, hbd, hb1⟩
  have E := hb1
  clear hb1
  obtain ⟨a1, c1, rfl, -⟩ := hV.open
  have V := Lib.hid hV
  clear hV
  obtain ⟨a2, c2, rfl, -⟩ := hU.open
  have U := Lib.hid hU
  clear hU
  obtain ⟨a3, c3, rfl, -⟩ := hB.open
  have B := Lib.hid hB
  clear hB
  have Hbd := Lib.hid hbd
  clear hbd
  go_upto_region 4 with fail
  obtain ⟨w2, hw2, A0, hs2, hb2⟩ := one_box w1 #[.slice a1 l.length c1, .slice a2 t.length c2] 27
  rw [← hw2.out]
  have V := Lib.hid (V.out.ext hb2)
  have U := Lib.hid (U.out.ext hb2)
  have B := Lib.hid (B.out.ext hb2)
  have E := ext_trans E hb2
  clear hb2
  obtain ⟨p, hp⟩ : ∃ p : Pj, Hid (p = ⟨l, t⟩) := ⟨_, rfl⟩
  have hpl : Hid (p.lo = l) := by rw [hp.out]; exact Lib.hid rfl
  have hpt : Hid (p.af = t) := by rw [hp.out]; exact Lib.hid rfl
  have V : Hid (Ints w2 w.heap.size (.slice a1 l.length c1) p.lo) := by rw [hpl.out]; exact V
  have U : Hid (Ints w2 w.heap.size (.slice a2 t.length c2) p.af) := by rw [hpt.out]; exact U
  obtain ⟨rcA0, rzA0⟩ := (A0).rules; have rlA0 := (A0).lt
  go_wp2_with fail
  obtain ⟨ok, hok⟩ : ∃ ok, Hid (ok = p.beginsOk hd b) := ⟨_, rfl⟩
  refine (impl_BeginsOk p _ _ _ hd b _ (V.out.base (Nat.zero_le _)) (U.out.base (Nat.zero_le _)) (B.out.base (Nat.zero_le _))).mono ?_
  rintro e w3 ⟨rfl, hb3⟩
  clear rcA0 rzA0 rlA0
  have A0 := A0.ext hb3
  have V := Lib.hid (V.out.ext hb3)
  have U := Lib.hid (U.out.ext hb3)
  have B := Lib.hid (B.out.ext hb3)
  have E := ext_trans E hb3
  clear hb3
  rw [← hok.out]
  obtain ⟨rcA0, rzA0⟩ := (A0).rules; have rlA0 := (A0).lt
  go_wp2_with fail
  refine (spec_BeginsOk p _ _ _ hd b _ (V.out.base (Nat.zero_le _)) (U.out.base (Nat.zero_le _)) (B.out.base (Nat.zero_le _))).mono ?_
  rintro e w4 ⟨rfl, hb4⟩
  clear rcA0 rzA0 rlA0
  have A0 := A0.ext hb4
  have V := Lib.hid (V.out.ext hb4)
  have U := Lib.hid (U.out.ext hb4)
  have B := Lib.hid (B.out.ext hb4)
  have E := ext_trans E hb4
  clear hb4
  rw [← hok.out]
  have hoo : (ok != ok) = false := by simp
  obtain ⟨rcA0, rzA0⟩ := (A0).rules; have rlA0 := (A0).lt
  go_wp2_with fail
  have hz := busyAt_zero p b
  obtain ⟨z, Hz⟩ : ∃ z, Hid (z = p.busyAt b 0) := ⟨_, rfl⟩
  refine (spec_BusyAt p _ _ _ b 0 _ (V.out.base (Nat.zero_le _)) (U.out.base (Nat.zero_le _)) (B.out.base (Nat.zero_le _))).mono ?_
  rintro e w5 ⟨rfl, hb5⟩
  clear rcA0 rzA0 rlA0
  have A0 := A0.ext hb5
  have V := Lib.hid (V.out.ext hb5)
  have U := Lib.hid (U.out.ext hb5)
  have B := Lib.hid (B.out.ext hb5)
  have E := ext_trans E hb5
  clear hb5
  rw [← Hz.out] at hz ⊢
  obtain ⟨rcA0, rzA0⟩ := (A0).rules; have rlA0 := (A0).lt
  cases hf : p.fit b
  · have hz1 := hz.2 hf
    have hz2 : z < 0 := by omega
    have hof : ok = false := by rw [hok.out]; simp [Pj.beginsOk, hf]
    clear hf hz hz1
    rw [hof]
    go_wp2_with fail
    refine (laws_alive _).mono ?_
    rintro e w6 ⟨rfl, hb6⟩
    clear rcA0 rzA0 rlA0
    have A0 := A0.ext hb6
    have V := Lib.hid (V.out.ext hb6)
    have U := Lib.hid (U.out.ext hb6)
    have B := Lib.hid (B.out.ext hb6)
    have E := ext_trans E hb6
    clear hb6
    go_wp2_with fail
    go_ret
    exact ⟨rfl, E⟩
  have hz2 : 0 ≤ z := hz.1 hf
  have hnz : ¬ z < 0 := by omega
  have HF := Lib.hid hf
  obtain ⟨hpo, hln, hlr⟩ := fit_in hf
  have Hlr := Lib.hid hlr; have Hln := Lib.hid hln
  clear hf hz hpo hln hlr
  go_wp2_with fail
  obtain ⟨en, hen⟩ : ∃ en, Hid (en = p.endOf b) := ⟨_, rfl⟩
  refine (impl_EndOf p _ _ _ b _ (V.out.base (Nat.zero_le _)) (U.out.base (Nat.zero_le _)) (B.out.base (Nat.zero_le _))).mono ?_
  rintro e w6 ⟨rfl, hb6⟩
  clear rcA0 rzA0 rlA0
  have A0 := A0.ext hb6
  have V := Lib.hid (V.out.ext hb6)
  have U := Lib.hid (U.out.ext hb6)
  have B := Lib.hid (B.out.ext hb6)
  have E := ext_trans E hb6
  clear hb6
  rw [← hen.out]
  go_wp2_with fail
  cases hokc : ok
  · have Hok : Hid (p.beginsOk hd b = false) := by rw [← hok.out]; exact Lib.hid hokc
    clear hokc
    obtain ⟨rcA0, rzA0⟩ := (A0).rules; have rlA0 := (A0).lt
    go_wp2_with fail
    clear rcA0 rzA0 rlA0
    go_loopg [8] 300 (fun m kk wr => ∃ k : Nat, k ≤ 200 ∧ m = 300 - k ∧ kk = .int .i64 k ∧ Below w6.heap.size w6 wr)
    case atStart => exact ⟨0, by omega, by omega, rfl, ext_refl _⟩
    case round =>
      rename World => wr
      obtain ⟨k, hk, hgk, rfl, hb⟩ := hrel
      have Hk := Lib.hid hgk
      clear hgk
      have A1 := A0.ext hb
      have E1 := ext_trans E hb
      obtain ⟨rc0, rz0⟩ := (A1).rules; have rl0 := (A1).lt
      by_cases hke : (k : Int) < en
      · skip
        have hWr : w6.heap.size ≤ wr.heap.size := hb.size
        go_upto_region 16 with fail
        obtain ⟨wy, hwy, T0, hsy, E5⟩ := one_box wr #[] 3
        rw [← hwy.out]
        have O : Hid (Ints wy wr.heap.size (.slice (some ⟨wr.heap.size, 0, none⟩) 0 0) ((later b).take 0)) := Lib.hid (Ints.ofBox T0 (Nat.le_refl _))
        have hb := ext_trans hb E5
        clear T0 A1 rc0 rz0 rl0 E1
        obtain ⟨wb, hwb⟩ : ∃ b, Hid (b = wr.heap.size) := ⟨_, rfl⟩
        rw [← hwb.out] at O ⊢
        have hwW : w6.heap.size ≤ wb := by rw [hwb.out]; have := hb.size; have := E5.size; have q := hsy; exact hWr
        have hwy2 : wb ≤ wy.heap.size := by rw [hwb.out]; exact E5.size
        go_wp2_with fail
        go_loopg [9, 10] b.length (fun m vo kk wx => ∃ k : Nat, k ≤ b.length ∧ m = b.length - k ∧ kk = .int .i64 k ∧ Hid (Ints wx wb vo ((later b).take k)) ∧ Below w6.heap.size w6 wx ∧ wb ≤ wx.heap.size)
        case atStart => exact ⟨0, by omega, by omega, rfl, O, hb, hwy2⟩
        case round =>
          clear O hb
          rename World => wx
          obtain ⟨k9, hk9, hgk9, rfl, O, hb, hwx⟩ := hrel
          have Hk9 := Lib.hid hgk9
          clear hgk9
          obtain ⟨ao, co, rfl, -⟩ := O.out.open
          have hll : (later b).length = b.length := List.length_map _
          have htl : ((later b).take k9).length = k9 := by rw [List.length_take, hll]; omega
          rw [htl] at O ⊢
          have A1 := A0.ext hb
          have E1 := ext_trans E hb
          have hwx1 := hwx
          by_cases hlt9 : k9 < b.length
          · obtain ⟨g3, ha3, _, hg3, _, cx⟩ := (B.out.ext hb).at_ hlt9
            subst ha3
            obtain ⟨x, Hx⟩ : ∃ x, Hid (x = b.getD k9 0) := ⟨_, rfl⟩
            rw [← Hx.out] at cx
            have hx := Hbd.out k9 hlt9
            rw [← Hx.out] at hx
            have hw : IntKind.i64.wrap (x + 1) = x + 1 := IntWalk.i64_in _ (by omega)
            have hnx : Hid ((later b).take (k9+1) = (later b).take k9 ++ [x + 1]) := by
              rw [List.take_add_one, List.getElem?_eq_getElem (by omega)]
              refine Lib.hid (congrArg (fun z => (later b).take k9 ++ [z]) ?_)
              have := later_at hlt9
              unfold lF at this
              rw [List.getD_eq_getElem?_getD, List.getElem?_eq_getElem (by omega)] at this
              rw [Hx.out]; exact this
            go_wp2_with (at_builtin; refine wpl_appI _ rfl (.tmp 67) (.tmp 73) rfl wb 0 (.slice ao k9 co) ((later b).take k9) rfl (O.out.alloc _) (.slice (some ⟨wx.heap.size, 0, none⟩) 1 1) [x + 1] rfl ((Ints.lit wx _).base (Nat.zero_le _)) (by rw [htl]; simp; omega) (by simp; omega) ?_; intro v9 w9 hv9 hg9)
            have hOl := Lib.hid O.out.lt
            have hb := ext_grown (ext_alloc hb _) hg9 (fun q hq => by have := hOl.out q hq; omega)
            have q9 := hg9.size
            rw [World.size_alloc] at q9
            rw [← hnx.out] at hv9
            go_roundg (b.length - (k9+1))
            case rel => exact ⟨k9+1, by omega, rfl, by go_num, Lib.hid hv9, hb, by omega⟩
            case measure => have := Hk9.out; omega
          · have hkl : k9 = b.length := by omega
            have Lr : Hid (Ints wx wb (.slice ao k9 co) (later b)) := by
              have h := O.out
              rw [hkl, ← hll, List.take_length] at h
              rw [hkl, ← hll]; exact Lib.hid h
            clear O hkl htl hll
            obtain ⟨rc0, rz0⟩ := (A1).rules; have rl0 := (A1).lt
            have hz0 := busyAt_zero p (later b)
            go_wp2_with fail
            have hbusy2 := Lib.hid (impl_BusyAt p _ _ _ (later b) 0 _ ((V.out.ext hb).base (Nat.zero_le _)) ((U.out.ext hb).base (Nat.zero_le _)) (Lr.out.base (Nat.zero_le _)))
            refine hbusy2.out.mono ?_
            clear hbusy2
            rintro e w11 ⟨rfl, hb11⟩
            have hb := ext_trans hb hb11
            have Lr := Lib.hid (Lr.out.ext hb11)
            have A1 := A1.ext hb11
            have E1 := ext_trans E1 hb11
            obtain ⟨z2, hz2'⟩ : ∃ z, Hid (z = p.busyAt (later b) 0) := ⟨_, rfl⟩
            rw [← hz2'.out] at hz0 ⊢
            clear rc0 rz0 rl0 hb11
            cases hf2 : p.fit (later b)
            · have hz3 : z2 < 0 := by have := hz0.2 hf2; omega
              clear hf2 hz0
              go_wp2_with fail
              refine (laws_alive _).mono ?_
              rintro e w12 ⟨rfl, hb12⟩
              go_wp2_with fail
              go_ret
              exact ⟨rfl, ext_trans E1 hb12⟩
            · have hz3 : ¬ z2 < 0 := by have := hz0.1 hf2; omega
              have hsm : Hid (p.beginsOk hd (later b) = false) := by rw [later_same HF.out hf2, Hok.out]; exact Lib.hid rfl
              clear hf2 hz0
              obtain ⟨rc0, rz0⟩ := (A1).rules; have rl0 := (A1).lt
              go_wp2_with fail
              refine (impl_BeginsOk p _ _ _ hd (later b) _ ((V.out.ext hb).base (Nat.zero_le _)) ((U.out.ext hb).base (Nat.zero_le _)) (Lr.out.base (Nat.zero_le _))).mono ?_
              rintro e w12 ⟨rfl, hb12⟩
              rw [hsm.out]
              have E1 := ext_trans E1 hb12
              clear rc0 rz0 rl0
              go_wp2_with fail
              refine (laws_alive _).mono ?_
              rintro e w13 ⟨rfl, hb13⟩
              go_wp2_with fail
              go_ret
              exact ⟨rfl, ext_trans E1 hb13⟩
      · skip
        have hWr : w6.heap.size ≤ wr.heap.size := hb.size
        go_upto_region 16 with fail
        obtain ⟨wy, hwy, T0, hsy, E5⟩ := one_box wr #[] 3
        rw [← hwy.out]
        have O : Hid (Ints wy wr.heap.size (.slice (some ⟨wr.heap.size, 0, none⟩) 0 0) ((later b).take 0)) := Lib.hid (Ints.ofBox T0 (Nat.le_refl _))
        have hb := ext_trans hb E5
        clear T0 A1 rc0 rz0 rl0 E1
        obtain ⟨wb, hwb⟩ : ∃ b, Hid (b = wr.heap.size) := ⟨_, rfl⟩
        rw [← hwb.out] at O ⊢
        have hwW : w6.heap.size ≤ wb := by rw [hwb.out]; have := hb.size; have := E5.size; have q := hsy; exact hWr
        have hwy2 : wb ≤ wy.heap.size := by rw [hwb.out]; exact E5.size
        go_wp2_with fail
        go_loopg [9, 10] b.length (fun m vo kk wx => ∃ k : Nat, k ≤ b.length ∧ m = b.length - k ∧ kk = .int .i64 k ∧ Hid (Ints wx wb vo ((later b).take k)) ∧ Below w6.heap.size w6 wx ∧ wb ≤ wx.heap.size)
        case atStart => exact ⟨0, by omega, by omega, rfl, O, hb, hwy2⟩
        case round =>
          clear O hb
          rename World => wx
          obtain ⟨k9, hk9, hgk9, rfl, O, hb, hwx⟩ := hrel
          have Hk9 := Lib.hid hgk9
          clear hgk9
          obtain ⟨ao, co, rfl, -⟩ := O.out.open
          have hll : (later b).length = b.length := List.length_map _
          have htl : ((later b).take k9).length = k9 := by rw [List.length_take, hll]; omega
          rw [htl] at O ⊢
          have A1 := A0.ext hb
          have E1 := ext_trans E hb
          have hwx1 := hwx
          by_cases hlt9 : k9 < b.length
          · obtain ⟨g3, ha3, _, hg3, _, cx⟩ := (B.out.ext hb).at_ hlt9
            subst ha3
            obtain ⟨x, Hx⟩ : ∃ x, Hid (x = b.getD k9 0) := ⟨_, rfl⟩
            rw [← Hx.out] at cx
            have hx := Hbd.out k9 hlt9
            rw [← Hx.out] at hx
            have hw : IntKind.i64.wrap (x + 1) = x + 1 := IntWalk.i64_in _ (by omega)
            have hnx : Hid ((later b).take (k9+1) = (later b).take k9 ++ [x + 1]) := by
              rw [List.take_add_one, List.getElem?_eq_getElem (by omega)]
              refine Lib.hid (congrArg (fun z => (later b).take k9 ++ [z]) ?_)
              have := later_at hlt9
              unfold lF at this
              rw [List.getD_eq_getElem?_getD, List.getElem?_eq_getElem (by omega)] at this
              rw [Hx.out]; exact this
            go_wp2_with (at_builtin; refine wpl_appI _ rfl (.tmp 67) (.tmp 73) rfl wb 0 (.slice ao k9 co) ((later b).take k9) rfl (O.out.alloc _) (.slice (some ⟨wx.heap.size, 0, none⟩) 1 1) [x + 1] rfl ((Ints.lit wx _).base (Nat.zero_le _)) (by rw [htl]; simp; omega) (by simp; omega) ?_; intro v9 w9 hv9 hg9)
            have hOl := Lib.hid O.out.lt
            have hb := ext_grown (ext_alloc hb _) hg9 (fun q hq => by have := hOl.out q hq; omega)
            have q9 := hg9.size
            rw [World.size_alloc] at q9
            rw [← hnx.out] at hv9
            go_roundg (b.length - (k9+1))
            case rel => exact ⟨k9+1, by omega, rfl, by go_num, Lib.hid hv9, hb, by omega⟩
            case measure => have := Hk9.out; omega
          · have hkl : k9 = b.length := by omega
            have Lr : Hid (Ints wx wb (.slice ao k9 co) (later b)) := by
              have h := O.out
              rw [hkl, ← hll, List.take_length] at h
              rw [hkl, ← hll]; exact Lib.hid h
            clear O hkl htl hll
            obtain ⟨rc0, rz0⟩ := (A1).rules; have rl0 := (A1).lt
            have hz0 := busyAt_zero p (later b)
            go_wp2_with fail
            have hbusy2 := Lib.hid (impl_BusyAt p _ _ _ (later b) 0 _ ((V.out.ext hb).base (Nat.zero_le _)) ((U.out.ext hb).base (Nat.zero_le _)) (Lr.out.base (Nat.zero_le _)))
            refine hbusy2.out.mono ?_
            clear hbusy2
            rintro e w11 ⟨rfl, hb11⟩
            have hb := ext_trans hb hb11
            have Lr := Lib.hid (Lr.out.ext hb11)
            have A1 := A1.ext hb11
            have E1 := ext_trans E1 hb11
            obtain ⟨z2, hz2'⟩ : ∃ z, Hid (z = p.busyAt (later b) 0) := ⟨_, rfl⟩
            rw [← hz2'.out] at hz0 ⊢
            clear rc0 rz0 rl0 hb11
            cases hf2 : p.fit (later b)
            · have hz3 : z2 < 0 := by have := hz0.2 hf2; omega
              clear hf2 hz0
              go_wp2_with fail
              refine (laws_alive _).mono ?_
              rintro e w12 ⟨rfl, hb12⟩
              go_wp2_with fail
              go_ret
              exact ⟨rfl, ext_trans E1 hb12⟩
            · have hz3 : ¬ z2 < 0 := by have := hz0.1 hf2; omega
              have hsm : Hid (p.beginsOk hd (later b) = false) := by rw [later_same HF.out hf2, Hok.out]; exact Lib.hid rfl
              clear hf2 hz0
              obtain ⟨rc0, rz0⟩ := (A1).rules; have rl0 := (A1).lt
              go_wp2_with fail
              refine (impl_BeginsOk p _ _ _ hd (later b) _ ((V.out.ext hb).base (Nat.zero_le _)) ((U.out.ext hb).base (Nat.zero_le _)) (Lr.out.base (Nat.zero_le _))).mono ?_
              rintro e w12 ⟨rfl, hb12⟩
              rw [hsm.out]
              have E1 := ext_trans E1 hb12
              clear rc0 rz0 rl0
              go_wp2_with fail
              refine (laws_alive _).mono ?_
              rintro e w13 ⟨rfl, hb13⟩
              go_wp2_with fail
              go_ret
              exact ⟨rfl, ext_trans E1 hb13⟩
  · have Hok : Hid (p.beginsOk hd b = true) := by rw [← hok.out]; exact Lib.hid hokc
    clear hokc
    obtain ⟨rcA0, rzA0⟩ := (A0).rules; have rlA0 := (A0).lt
    go_wp2_with fail
    clear rcA0 rzA0 rlA0
    go_loopg [8] 300 (fun m kk wr => ∃ k : Nat, k ≤ 200 ∧ m = 300 - k ∧ kk = .int .i64 k ∧ Below w6.heap.size w6 wr)
    case atStart => exact ⟨0, by omega, by omega, rfl, ext_refl _⟩
    case round =>
      rename World => wr
      obtain ⟨k, hk, hgk, rfl, hb⟩ := hrel
      have Hk := Lib.hid hgk
      clear hgk
      have A1 := A0.ext hb
      have E1 := ext_trans E hb
      obtain ⟨rc0, rz0⟩ := (A1).rules; have rl0 := (A1).lt
      by_cases hke : (k : Int) < en
      · by_cases hk2 : k < 200
        · have hk3 : (k : Int) < 200 := by omega
          go_wp2_with fail
          refine (impl_BusyAt p _ _ _ b k _ ((V.out.ext hb).base (Nat.zero_le _)) ((U.out.ext hb).base (Nat.zero_le _)) ((B.out.ext hb).base (Nat.zero_le _))).mono ?_
          rintro e w9 ⟨rfl, hb9⟩
          have hbb := ext_trans hb hb9
          have hpk : p.busyAt b k ≤ hd := by
            rw [show p.busyAt b k = busyTo (lF b) p.L k p.lo.length from if_pos (by rw [HF.out, (inB_iff _ _ _).2 (by omega)]; rfl)]
            exact busy_peak Hok.out k
          obtain ⟨bk, hbk⟩ : ∃ bk, Hid (bk = p.busyAt b k) := ⟨_, rfl⟩
          rw [← hbk.out] at hpk ⊢
          have hpk2 : ¬ hd < bk := by omega
          clear rc0 rz0 rl0 hb9
          go_wp2_with fail
          go_roundg (300 - (k+1))
          case rel => exact ⟨k+1, by omega, rfl, by go_num, hbb⟩
          case measure => have := Hk.out; omega
        · have hk3 : ¬ ((k : Int) < 200) := by omega
          have hWr : w6.heap.size ≤ wr.heap.size := hb.size
          go_upto_region 16 with fail
          obtain ⟨wy, hwy, T0, hsy, E5⟩ := one_box wr #[] 3
          rw [← hwy.out]
          have O : Hid (Ints wy wr.heap.size (.slice (some ⟨wr.heap.size, 0, none⟩) 0 0) ((later b).take 0)) := Lib.hid (Ints.ofBox T0 (Nat.le_refl _))
          have hb := ext_trans hb E5
          clear T0 A1 rc0 rz0 rl0 E1
          obtain ⟨wb, hwb⟩ : ∃ b, Hid (b = wr.heap.size) := ⟨_, rfl⟩
          rw [← hwb.out] at O ⊢
          have hwW : w6.heap.size ≤ wb := by rw [hwb.out]; have := hb.size; have := E5.size; have q := hsy; exact hWr
          have hwy2 : wb ≤ wy.heap.size := by rw [hwb.out]; exact E5.size
          go_wp2_with fail
          go_loopg [9, 10] b.length (fun m vo kk wx => ∃ k : Nat, k ≤ b.length ∧ m = b.length - k ∧ kk = .int .i64 k ∧ Hid (Ints wx wb vo ((later b).take k)) ∧ Below w6.heap.size w6 wx ∧ wb ≤ wx.heap.size)
          case atStart => exact ⟨0, by omega, by omega, rfl, O, hb, hwy2⟩
          case round =>
            clear O hb
            rename World => wx
            obtain ⟨k9, hk9, hgk9, rfl, O, hb, hwx⟩ := hrel
            have Hk9 := Lib.hid hgk9
            clear hgk9
            obtain ⟨ao, co, rfl, -⟩ := O.out.open
            have hll : (later b).length = b.length := List.length_map _
            have htl : ((later b).take k9).length = k9 := by rw [List.length_take, hll]; omega
            rw [htl] at O ⊢
            have A1 := A0.ext hb
            have E1 := ext_trans E hb
            have hwx1 := hwx
            by_cases hlt9 : k9 < b.length
            · obtain ⟨g3, ha3, _, hg3, _, cx⟩ := (B.out.ext hb).at_ hlt9
              subst ha3
              obtain ⟨x, Hx⟩ : ∃ x, Hid (x = b.getD k9 0) := ⟨_, rfl⟩
              rw [← Hx.out] at cx
              have hx := Hbd.out k9 hlt9
              rw [← Hx.out] at hx
              have hw : IntKind.i64.wrap (x + 1) = x + 1 := IntWalk.i64_in _ (by omega)
              have hnx : Hid ((later b).take (k9+1) = (later b).take k9 ++ [x + 1]) := by
                rw [List.take_add_one, List.getElem?_eq_getElem (by omega)]
                refine Lib.hid (congrArg (fun z => (later b).take k9 ++ [z]) ?_)
                have := later_at hlt9
                unfold lF at this
                rw [List.getD_eq_getElem?_getD, List.getElem?_eq_getElem (by omega)] at this
                rw [Hx.out]; exact this
              go_wp2_with (at_builtin; refine wpl_appI _ rfl (.tmp 67) (.tmp 73) rfl wb 0 (.slice ao k9 co) ((later b).take k9) rfl (O.out.alloc _) (.slice (some ⟨wx.heap.size, 0, none⟩) 1 1) [x + 1] rfl ((Ints.lit wx _).base (Nat.zero_le _)) (by rw [htl]; simp; omega) (by simp; omega) ?_; intro v9 w9 hv9 hg9)
              have hOl := Lib.hid O.out.lt
              have hb := ext_grown (ext_alloc hb _) hg9 (fun q hq => by have := hOl.out q hq; omega)
              have q9 := hg9.size
              rw [World.size_alloc] at q9
              rw [← hnx.out] at hv9
              go_roundg (b.length - (k9+1))
              case rel => exact ⟨k9+1, by omega, rfl, by go_num, Lib.hid hv9, hb, by omega⟩
              case measure => have := Hk9.out; omega
            · have hkl : k9 = b.length := by omega
              have Lr : Hid (Ints wx wb (.slice ao k9 co) (later b)) := by
                have h := O.out
                rw [hkl, ← hll, List.take_length] at h
                rw [hkl, ← hll]; exact Lib.hid h
              clear O hkl htl hll
              obtain ⟨rc0, rz0⟩ := (A1).rules; have rl0 := (A1).lt
              have hmore := fun h3 => begins_more Hok.out h3
              by_cases h3 : 3 ≤ hd
              · have hd3 : decide (hd ≥ 3) = true := decide_eq_true h3
                go_wp2_with fail
                have hz0 := busyAt_zero p (later b)
                have hbusy2 := Lib.hid (impl_BusyAt p _ _ _ (later b) 0 _ ((V.out.ext hb).base (Nat.zero_le _)) ((U.out.ext hb).base (Nat.zero_le _)) (Lr.out.base (Nat.zero_le _)))
                refine hbusy2.out.mono ?_
                clear hbusy2
                rintro e w11 ⟨rfl, hb11⟩
                have hb := ext_trans hb hb11
                have Lr := Lib.hid (Lr.out.ext hb11)
                have A1 := A1.ext hb11
                have E1 := ext_trans E1 hb11
                obtain ⟨z2, hz2'⟩ : ∃ z, Hid (z = p.busyAt (later b) 0) := ⟨_, rfl⟩
                rw [← hz2'.out] at hz0 ⊢
                clear rc0 rz0 rl0 hb11
                cases hf2 : p.fit (later b)
                · have hz3 : z2 < 0 := by have := hz0.2 hf2; omega
                  clear hf2 hz0
                  go_wp2_with fail
                  refine (laws_alive _).mono ?_
                  rintro e w12 ⟨rfl, hb12⟩
                  go_wp2_with fail
                  go_ret
                  exact ⟨rfl, ext_trans E1 hb12⟩
                · have hz3 : ¬ z2 < 0 := by have := hz0.1 hf2; omega
                  have hsm : Hid (p.beginsOk hd (later b) = true) := by rw [later_same HF.out hf2, Hok.out]; exact Lib.hid rfl
                  clear hf2 hz0
                  obtain ⟨rc0, rz0⟩ := (A1).rules; have rl0 := (A1).lt
                  go_wp2_with fail
                  refine (impl_BeginsOk p _ _ _ hd (later b) _ ((V.out.ext hb).base (Nat.zero_le _)) ((U.out.ext hb).base (Nat.zero_le _)) (Lr.out.base (Nat.zero_le _))).mono ?_
                  rintro e w12 ⟨rfl, hb12⟩
                  rw [hsm.out]
                  have E1 := ext_trans E1 hb12
                  clear rc0 rz0 rl0
                  go_wp2_with fail
                  refine (laws_alive _).mono ?_
                  rintro e w13 ⟨rfl, hb13⟩
                  go_wp2_with fail
                  go_ret
                  exact ⟨rfl, ext_trans E1 hb13⟩
              · have hd3 : decide (hd ≥ 3) = false := decide_eq_false h3
                have hw1 : IntKind.i64.wrap (hd + 1) = hd + 1 := IntWalk.i64_in _ (by have := (begins_iff.1 Hok.out).2.1; omega)
                go_wp2_with fail
                refine (impl_BeginsOk p _ _ _ (hd+1) b _ ((V.out.ext hb).base (Nat.zero_le _)) ((U.out.ext hb).base (Nat.zero_le _)) ((B.out.ext hb).base (Nat.zero_le _))).mono ?_
                rintro e w10 ⟨rfl, hb10⟩
                have hb := ext_trans hb hb10
                have Lr := Lib.hid (Lr.out.ext hb10)
                have A1 := A1.ext hb10
                have E1 := ext_trans E1 hb10
                rw [hmore (by omega)]
                clear rc0 rz0 rl0 hb10
                obtain ⟨rc0, rz0⟩ := (A1).rules; have rl0 := (A1).lt
                go_wp2_with fail
                have hz0 := busyAt_zero p (later b)
                have hbusy2 := Lib.hid (impl_BusyAt p _ _ _ (later b) 0 _ ((V.out.ext hb).base (Nat.zero_le _)) ((U.out.ext hb).base (Nat.zero_le _)) (Lr.out.base (Nat.zero_le _)))
                refine hbusy2.out.mono ?_
                clear hbusy2
                rintro e w11 ⟨rfl, hb11⟩
                have hb := ext_trans hb hb11
                have Lr := Lib.hid (Lr.out.ext hb11)
                have A1 := A1.ext hb11
                have E1 := ext_trans E1 hb11
                obtain ⟨z2, hz2'⟩ : ∃ z, Hid (z = p.busyAt (later b) 0) := ⟨_, rfl⟩
                rw [← hz2'.out] at hz0 ⊢
                clear rc0 rz0 rl0 hb11
                cases hf2 : p.fit (later b)
                · have hz3 : z2 < 0 := by have := hz0.2 hf2; omega
                  clear hf2 hz0
                  go_wp2_with fail
                  refine (laws_alive _).mono ?_
                  rintro e w12 ⟨rfl, hb12⟩
                  go_wp2_with fail
                  go_ret
                  exact ⟨rfl, ext_trans E1 hb12⟩
                · have hz3 : ¬ z2 < 0 := by have := hz0.1 hf2; omega
                  have hsm : Hid (p.beginsOk hd (later b) = true) := by rw [later_same HF.out hf2, Hok.out]; exact Lib.hid rfl
                  clear hf2 hz0
                  obtain ⟨rc0, rz0⟩ := (A1).rules; have rl0 := (A1).lt
                  go_wp2_with fail
                  refine (impl_BeginsOk p _ _ _ hd (later b) _ ((V.out.ext hb).base (Nat.zero_le _)) ((U.out.ext hb).base (Nat.zero_le _)) (Lr.out.base (Nat.zero_le _))).mono ?_
                  rintro e w12 ⟨rfl, hb12⟩
                  rw [hsm.out]
                  have E1 := ext_trans E1 hb12
                  clear rc0 rz0 rl0
                  go_wp2_with fail
                  refine (laws_alive _).mono ?_
                  rintro e w13 ⟨rfl, hb13⟩
                  go_wp2_with fail
                  go_ret
                  exact ⟨rfl, ext_trans E1 hb13⟩
      · skip
        have hWr : w6.heap.size ≤ wr.heap.size := hb.size
        go_upto_region 16 with fail
        obtain ⟨wy, hwy, T0, hsy, E5⟩ := one_box wr #[] 3
        rw [← hwy.out]
        have O : Hid (Ints wy wr.heap.size (.slice (some ⟨wr.heap.size, 0, none⟩) 0 0) ((later b).take 0)) := Lib.hid (Ints.ofBox T0 (Nat.le_refl _))
        have hb := ext_trans hb E5
        clear T0 A1 rc0 rz0 rl0 E1
        obtain ⟨wb, hwb⟩ : ∃ b, Hid (b = wr.heap.size) := ⟨_, rfl⟩
        rw [← hwb.out] at O ⊢
        have hwW : w6.heap.size ≤ wb := by rw [hwb.out]; have := hb.size; have := E5.size; have q := hsy; exact hWr
        have hwy2 : wb ≤ wy.heap.size := by rw [hwb.out]; exact E5.size
        go_wp2_with fail
        go_loopg [9, 10] b.length (fun m vo kk wx => ∃ k : Nat, k ≤ b.length ∧ m = b.length - k ∧ kk = .int .i64 k ∧ Hid (Ints wx wb vo ((later b).take k)) ∧ Below w6.heap.size w6 wx ∧ wb ≤ wx.heap.size)
        case atStart => exact ⟨0, by omega, by omega, rfl, O, hb, hwy2⟩
        case round =>
          clear O hb
          rename World => wx
          obtain ⟨k9, hk9, hgk9, rfl, O, hb, hwx⟩ := hrel
          have Hk9 := Lib.hid hgk9
          clear hgk9
          obtain ⟨ao, co, rfl, -⟩ := O.out.open
          have hll : (later b).length = b.length := List.length_map _
          have htl : ((later b).take k9).length = k9 := by rw [List.length_take, hll]; omega
          rw [htl] at O ⊢
          have A1 := A0.ext hb
          have E1 := ext_trans E hb
          have hwx1 := hwx
          by_cases hlt9 : k9 < b.length
          · obtain ⟨g3, ha3, _, hg3, _, cx⟩ := (B.out.ext hb).at_ hlt9
            subst ha3
            obtain ⟨x, Hx⟩ : ∃ x, Hid (x = b.getD k9 0) := ⟨_, rfl⟩
            rw [← Hx.out] at cx
            have hx := Hbd.out k9 hlt9
            rw [← Hx.out] at hx
            have hw : IntKind.i64.wrap (x + 1) = x + 1 := IntWalk.i64_in _ (by omega)
            have hnx : Hid ((later b).take (k9+1) = (later b).take k9 ++ [x + 1]) := by
              rw [List.take_add_one, List.getElem?_eq_getElem (by omega)]
              refine Lib.hid (congrArg (fun z => (later b).take k9 ++ [z]) ?_)
              have := later_at hlt9
              unfold lF at this
              rw [List.getD_eq_getElem?_getD, List.getElem?_eq_getElem (by omega)] at this
              rw [Hx.out]; exact this
            go_wp2_with (at_builtin; refine wpl_appI _ rfl (.tmp 67) (.tmp 73) rfl wb 0 (.slice ao k9 co) ((later b).take k9) rfl (O.out.alloc _) (.slice (some ⟨wx.heap.size, 0, none⟩) 1 1) [x + 1] rfl ((Ints.lit wx _).base (Nat.zero_le _)) (by rw [htl]; simp; omega) (by simp; omega) ?_; intro v9 w9 hv9 hg9)
            have hOl := Lib.hid O.out.lt
            have hb := ext_grown (ext_alloc hb _) hg9 (fun q hq => by have := hOl.out q hq; omega)
            have q9 := hg9.size
            rw [World.size_alloc] at q9
            rw [← hnx.out] at hv9
            go_roundg (b.length - (k9+1))
            case rel => exact ⟨k9+1, by omega, rfl, by go_num, Lib.hid hv9, hb, by omega⟩
            case measure => have := Hk9.out; omega
          · have hkl : k9 = b.length := by omega
            have Lr : Hid (Ints wx wb (.slice ao k9 co) (later b)) := by
              have h := O.out
              rw [hkl, ← hll, List.take_length] at h
              rw [hkl, ← hll]; exact Lib.hid h
            clear O hkl htl hll
            obtain ⟨rc0, rz0⟩ := (A1).rules; have rl0 := (A1).lt
            have hmore := fun h3 => begins_more Hok.out h3
            by_cases h3 : 3 ≤ hd
            · have hd3 : decide (hd ≥ 3) = true := decide_eq_true h3
              go_wp2_with fail
              have hz0 := busyAt_zero p (later b)
              have hbusy2 := Lib.hid (impl_BusyAt p _ _ _ (later b) 0 _ ((V.out.ext hb).base (Nat.zero_le _)) ((U.out.ext hb).base (Nat.zero_le _)) (Lr.out.base (Nat.zero_le _)))
              refine hbusy2.out.mono ?_
              clear hbusy2
              rintro e w11 ⟨rfl, hb11⟩
              have hb := ext_trans hb hb11
              have Lr := Lib.hid (Lr.out.ext hb11)
              have A1 := A1.ext hb11
              have E1 := ext_trans E1 hb11
              obtain ⟨z2, hz2'⟩ : ∃ z, Hid (z = p.busyAt (later b) 0) := ⟨_, rfl⟩
              rw [← hz2'.out] at hz0 ⊢
              clear rc0 rz0 rl0 hb11
              cases hf2 : p.fit (later b)
              · have hz3 : z2 < 0 := by have := hz0.2 hf2; omega
                clear hf2 hz0
                go_wp2_with fail
                refine (laws_alive _).mono ?_
                rintro e w12 ⟨rfl, hb12⟩
                go_wp2_with fail
                go_ret
                exact ⟨rfl, ext_trans E1 hb12⟩
              · have hz3 : ¬ z2 < 0 := by have := hz0.1 hf2; omega
                have hsm : Hid (p.beginsOk hd (later b) = true) := by rw [later_same HF.out hf2, Hok.out]; exact Lib.hid rfl
                clear hf2 hz0
                obtain ⟨rc0, rz0⟩ := (A1).rules; have rl0 := (A1).lt
                go_wp2_with fail
                refine (impl_BeginsOk p _ _ _ hd (later b) _ ((V.out.ext hb).base (Nat.zero_le _)) ((U.out.ext hb).base (Nat.zero_le _)) (Lr.out.base (Nat.zero_le _))).mono ?_
                rintro e w12 ⟨rfl, hb12⟩
                rw [hsm.out]
                have E1 := ext_trans E1 hb12
                clear rc0 rz0 rl0
                go_wp2_with fail
                refine (laws_alive _).mono ?_
                rintro e w13 ⟨rfl, hb13⟩
                go_wp2_with fail
                go_ret
                exact ⟨rfl, ext_trans E1 hb13⟩
            · have hd3 : decide (hd ≥ 3) = false := decide_eq_false h3
              have hw1 : IntKind.i64.wrap (hd + 1) = hd + 1 := IntWalk.i64_in _ (by have := (begins_iff.1 Hok.out).2.1; omega)
              go_wp2_with fail
              refine (impl_BeginsOk p _ _ _ (hd+1) b _ ((V.out.ext hb).base (Nat.zero_le _)) ((U.out.ext hb).base (Nat.zero_le _)) ((B.out.ext hb).base (Nat.zero_le _))).mono ?_
              rintro e w10 ⟨rfl, hb10⟩
              have hb := ext_trans hb hb10
              have Lr := Lib.hid (Lr.out.ext hb10)
              have A1 := A1.ext hb10
              have E1 := ext_trans E1 hb10
              rw [hmore (by omega)]
              clear rc0 rz0 rl0 hb10
              obtain ⟨rc0, rz0⟩ := (A1).rules; have rl0 := (A1).lt
              go_wp2_with fail
              have hz0 := busyAt_zero p (later b)
              have hbusy2 := Lib.hid (impl_BusyAt p _ _ _ (later b) 0 _ ((V.out.ext hb).base (Nat.zero_le _)) ((U.out.ext hb).base (Nat.zero_le _)) (Lr.out.base (Nat.zero_le _)))
              refine hbusy2.out.mono ?_
              clear hbusy2
              rintro e w11 ⟨rfl, hb11⟩
              have hb := ext_trans hb hb11
              have Lr := Lib.hid (Lr.out.ext hb11)
              have A1 := A1.ext hb11
              have E1 := ext_trans E1 hb11
              obtain ⟨z2, hz2'⟩ : ∃ z, Hid (z = p.busyAt (later b) 0) := ⟨_, rfl⟩
              rw [← hz2'.out] at hz0 ⊢
              clear rc0 rz0 rl0 hb11
              cases hf2 : p.fit (later b)
              · have hz3 : z2 < 0 := by have := hz0.2 hf2; omega
                clear hf2 hz0
                go_wp2_with fail
                refine (laws_alive _).mono ?_
                rintro e w12 ⟨rfl, hb12⟩
                go_wp2_with fail
                go_ret
                exact ⟨rfl, ext_trans E1 hb12⟩
              · have hz3 : ¬ z2 < 0 := by have := hz0.1 hf2; omega
                have hsm : Hid (p.beginsOk hd (later b) = true) := by rw [later_same HF.out hf2, Hok.out]; exact Lib.hid rfl
                clear hf2 hz0
                obtain ⟨rc0, rz0⟩ := (A1).rules; have rl0 := (A1).lt
                go_wp2_with fail
                refine (impl_BeginsOk p _ _ _ hd (later b) _ ((V.out.ext hb).base (Nat.zero_le _)) ((U.out.ext hb).base (Nat.zero_le _)) (Lr.out.base (Nat.zero_le _))).mono ?_
                rintro e w12 ⟨rfl, hb12⟩
                rw [hsm.out]
                have E1 := ext_trans E1 hb12
                clear rc0 rz0 rl0
                go_wp2_with fail
                refine (laws_alive _).mono ?_
                rintro e w13 ⟨rfl, hb13⟩
                go_wp2_with fail
                go_ret
                exact ⟨rfl, ext_trans E1 hb13⟩
end Go.Proofs.Ytdfcjhcnojgkiaa
