/- The walks of the tests on orders: slices.Index and Contains over numbers, OrderOk of impl and of spec, orderFits. No condition but that the numbers can be read. -/
import Derived.Test.YtdfcjhcnojgkiaaByMath
import Derived.Test.YtdfcjhcnojgkiaaHandsS
import Derived.BigQuiet
namespace Go.Proofs.Ytdfcjhcnojgkiaa
open Go.RowKit
set_option linter.unusedVariables false
set_option linter.unusedSimpArgs false
theorem Ints.first {w : World} {base n cap : Nat} {a : Option Addr} {l : List Int} (h : Ints w base (.slice a n cap) l) {k : Nat} (hk : k ≤ l.length) : Ints w base (.slice a k cap) (l.take k) := by
  have e : (l.take k).length = k := by rw [List.length_take]; omega
  unfold Ints at h ⊢
  rw [e, List.map_take]
  obtain ⟨h1, h2⟩ := h
  rcases h2 with ⟨h0, h3⟩ | ⟨g', cap', cur, hv, hg, hh, hn, hcap, hsz, htake⟩
  · cases h0
    have hl : l = [] := by simpa using h3
    subst hl
    have hk0 : k = 0 := by simpa using hk
    subst hk0
    exact World.ownsRow_nil _ _ _ _
  · cases hv
    refine ⟨by rw [List.length_take, List.length_map]; omega, .inr ⟨_, _, cur, rfl, hg, hh, by omega, hcap, hsz, ?_⟩⟩
    have h3 : (cur.toList.take (l.length * 1)).take (k * 1) = (l.map (Value.int .i64)).take (k * 1) := by rw [htake]
    rw [List.take_take, Nat.min_eq_left (Nat.mul_le_mul_right _ (by omega))] at h3
    rw [h3, Nat.mul_one]
def hasN (l : List Int) (x : Int) : Bool := decide (∃ j, j < l.length ∧ l.getD j 0 = x)
set_option maxHeartbeats 1000000 in
theorem slices_Index (v : Value) (l : List Int) (x : Int) (w : World) (hv : Ints w 0 v l) :
    Calls Try.prog 58 #[v, .int .i64 x] w fun e w' => (∃ r : Int, e = .returned (.int .i64 r) ∧ decide (r ≥ 0) = hasN l x) ∧ w = w' := by
  have Hv := Lib.hid hv
  obtain ⟨a, cap, rfl, hn, hc, -⟩ := hv.open
  clear hv
  go_enter Try.func58, Try.ntmps58
  go_wp2_with fail
  go_loopg [8] l.length (fun m k wr => ∃ j : Nat, j ≤ l.length ∧ m = l.length - j ∧ k = .int .i64 j ∧ wr = w ∧ Hid (∀ i, i < j → l.getD i 0 ≠ x))
  case atStart => exact ⟨0, by omega, by omega, rfl, rfl, fun i hi => by omega⟩
  case round =>
    obtain ⟨j, hj, hgk, rfl, rfl, Hall⟩ := hrel
    have Hk := Lib.hid hgk
    clear hgk
    by_cases hlt : j < l.length
    · obtain ⟨g, rfl, _, hg, _, k0⟩ := Hv.out.at_ hlt
      obtain ⟨b, Hb⟩ : ∃ b, Hid (b = l.getD j 0) := ⟨_, rfl⟩
      rw [← Hb.out] at k0
      by_cases hbb : x = b
      · have hbn : (x == b) = true := by simp [hbb]
        have Hbb := Lib.hid hbb
        clear hbb
        go_wp2_with fail
        go_ret
        refine ⟨⟨j, rfl, ?_⟩, rfl⟩
        have e1 : hasN l x = true := decide_eq_true ⟨j, hlt, by rw [← Hb.out]; exact Hbb.out.symm⟩
        rw [e1]; exact decide_eq_true (by omega)
      · have hbn : (x == b) = false := by simp [hbb]
        have Hbb := Lib.hid hbb
        clear hbb
        go_wp2_with fail
        go_roundg (l.length - (j+1))
        case rel =>
          refine ⟨j+1, by omega, rfl, by go_num, rfl, fun i hi => ?_⟩
          by_cases hij : i = j
          · subst hij; rw [← Hb.out]; exact fun e => Hbb.out e.symm
          · exact Hall.out i (by omega)
        case measure => have := Hk.out; omega
    · have hjl : j = l.length := by omega
      subst hjl
      go_wp2_with fail
      go_ret
      refine ⟨⟨-1, rfl, ?_⟩, rfl⟩
      have e1 : hasN l x = false := decide_eq_false (fun ⟨i, h1, h2⟩ => Hall.out i h1 h2)
      rw [e1]; rfl
set_option maxHeartbeats 1000000 in
theorem slices_Contains (v : Value) (l : List Int) (x : Int) (w : World) (hv : Ints w 0 v l) :
    Calls Try.prog 45 #[v, .int .i64 x] w fun e w' => e = .returned (.bool (hasN l x)) ∧ w = w' := by
  have H := Lib.hid (slices_Index v l x w hv)
  clear hv
  go_enter Try.func45, Try.ntmps45
  go_wp2_with fail
  refine H.out.mono ?_
  rintro e w' ⟨⟨r, rfl, hr⟩, rfl⟩
  go_wp2_with fail
  go_ret
  exact ⟨by rw [← hr]; rfl, rfl⟩
theorem hasN_first {o : List Int} {i : Nat} {x : Int} (hi : i ≤ o.length) : hasN (o.take i) x = !((List.range i).all (fun j => o.getD j 0 != x)) := by
  have e : (o.take i).length = i := by rw [List.length_take]; omega
  have g : ∀ j, j < i → (o.take i).getD j 0 = o.getD j 0 := fun j hj => by
    rw [List.getD_eq_getElem?_getD, List.getD_eq_getElem?_getD, List.getElem?_take, if_pos hj]
  cases hc : (List.range i).all (fun j => o.getD j 0 != x)
  · rw [List.all_eq_false] at hc
    obtain ⟨j, hj, hx⟩ := hc
    have hj := List.mem_range.1 hj
    exact decide_eq_true ⟨j, by omega, by rw [g j hj]; simpa using hx⟩
  · simp only [List.all_eq_true, List.mem_range, bne_iff_ne] at hc
    refine decide_eq_false ?_
    rintro ⟨j, hj, hx⟩
    exact hc j (by omega) (by rw [← g j (by omega)]; exact hx)
set_option maxHeartbeats 4000000 in
theorem impl_OrderOk (v : Value) (o : List Int) (m : Nat) (w : World) (hv : Ints w 0 v o) (hm : m ≤ 4000000) :
    Calls Try.prog 57 #[v, .int .i64 m] w fun e w' => e = .returned (.bool (orderOk o m)) ∧ w = w' := by
  have Hv := Lib.hid hv
  obtain ⟨a, cap, rfl, hn, hc, -⟩ := hv.open
  clear hv
  have hw : IntKind.i64.wrap ((m : Int) - 1) = (m : Int) - 1 := IntWalk.i64_in _ (by omega)
  go_enter Try.func57, Try.ntmps57
  go_wp2_with fail
  go_loopg [9] o.length (fun z k wr => ∃ j : Nat, j ≤ o.length ∧ z = o.length - j ∧ k = .int .i64 j ∧ wr = w ∧ Hid (∀ i, i < j → ordAt o m i = true))
  case atStart => exact ⟨0, by omega, by omega, rfl, rfl, fun i hi => by omega⟩
  case round =>
    obtain ⟨j, hj, hgk, rfl, rfl, Hall⟩ := hrel
    have Hk := Lib.hid hgk
    clear hgk
    by_cases hlt : j < o.length
    · have H1 := Lib.hid (Hv.out.first (k := j) (by omega))
      obtain ⟨g, rfl, _, hg, _, k0⟩ := Hv.out.at_ hlt
      obtain ⟨x, Hx⟩ : ∃ x, Hid (x = o.getD j 0) := ⟨_, rfl⟩
      rw [← Hx.out] at k0
      have hat : Hid (ordAt o m j = (inB x 0 ((m : Int) - 1) && (List.range j).all (fun i => o.getD i 0 != x))) := by rw [Hx.out]; exact Lib.hid rfl
      go_wp2_with fail
      refine (impl_in _ _ _ _).mono ?_
      rintro e w' ⟨rfl, rfl⟩
      cases hin : inB x 0 ((m : Int) - 1)
      · have hf : Hid (orderOk o m = false) := Lib.hid (order_not hlt (by rw [hat.out, hin]; rfl))
        clear hin
        go_wp2_with fail
        go_ret
        exact ⟨by rw [hf.out]; rfl, rfl⟩
      · have Hin := Lib.hid hin
        clear hin
        go_wp2_with fail
        refine (slices_Contains _ (o.take j) x _ H1.out).mono ?_
        rintro e w' ⟨rfl, rfl⟩
        cases hh : hasN (o.take j) x
        · have Hh := Lib.hid hh
          clear hh
          go_wp2_with fail
          go_roundg (o.length - (j+1))
          case rel =>
            refine ⟨j+1, by omega, rfl, by go_num, rfl, fun i hi => ?_⟩
            by_cases hij : i = j
            · subst hij
              have := Hh.out
              rw [hasN_first (by omega), Bool.not_eq_false'] at this
              rw [hat.out, Hin.out, this]; rfl
            · exact Hall.out i (by omega)
          case measure => have := Hk.out; omega
        · have hf : Hid (orderOk o m = false) := by
            refine Lib.hid (order_not hlt ?_)
            rw [hasN_first (by omega), Bool.not_eq_true'] at hh
            rw [hat.out, hh, Bool.and_false]
          clear hh
          go_wp2_with fail
          go_ret
          exact ⟨by rw [hf.out]; rfl, rfl⟩
    · have hjl : j = o.length := by omega
      subst hjl
      have ho : Hid (orderOk o m = (decide (m ≤ 6) && decide (o.length = m))) := by
        unfold orderOk
        rw [show (List.range o.length).all (ordAt o m) = true from List.all_eq_true.2 fun i hi => Hall.out i (List.mem_range.1 hi)]
        exact Lib.hid rfl
      go_wp2_with fail
      refine (impl_in _ _ _ _).mono ?_
      rintro e w' ⟨rfl, rfl⟩
      by_cases h6 : m ≤ 6
      · have e6 : inB (m : Int) 0 6 = true := (inB_iff _ _ _).2 (by omega)
        rw [e6]
        by_cases hl : o.length = m
        · have hE : ((o.length : Int) == (m : Int)) = true := by simp [hl]
          have hf : Hid (orderOk o m = true) := by rw [ho.out, decide_eq_true h6, decide_eq_true hl]; exact Lib.hid rfl
          clear hl
          go_wp2_with fail
          go_ret
          exact ⟨by rw [hf.out]; rfl, rfl⟩
        · have hE : ((o.length : Int) == (m : Int)) = false := by simp; omega
          have hf : Hid (orderOk o m = false) := by rw [ho.out, decide_eq_false hl, Bool.and_false]; exact Lib.hid rfl
          clear hl
          go_wp2_with fail
          go_ret
          exact ⟨by rw [hf.out]; rfl, rfl⟩
      · have e6 : inB (m : Int) 0 6 = false := by
          cases hc : inB (m : Int) 0 6
          · rfl
          · have := (inB_iff _ _ _).1 hc; omega
        rw [e6]
        have hf : Hid (orderOk o m = false) := by rw [ho.out, decide_eq_false h6]; exact Lib.hid rfl
        go_wp2_with fail
        go_ret
        exact ⟨by rw [hf.out]; rfl, rfl⟩
set_option maxHeartbeats 2000000 in
theorem impl_orderFits (p : Pj) (v1 v2 v3 : Value) (h : Int) (o : List Int) (w : World) (h1 : Ints w 0 v1 p.lo) (h2 : Ints w 0 v2 p.af) (h3 : Ints w 0 v3 o) (hlen : p.lo.length ≤ 4000000) :
    Calls Try.prog 43 #[.agg #[v1, v2], .int .i64 h, v3] w fun e w' => e = .returned (.bool (p.ordFit h o)) ∧ Below w.heap.size w w' := by
  have H1 := Lib.hid h1; have H2 := Lib.hid h2; have H3 := Lib.hid h3
  obtain ⟨a1, c1, rfl, hn1, hc1, -⟩ := h1.open
  obtain ⟨a2, c2, rfl, hn2, hc2, -⟩ := h2.open
  clear h1 h2 h3
  go_enter Try.func43, Try.ntmps43
  go_wp2_with fail
  obtain ⟨W, hW, A0, hs, E⟩ := one_box w #[.slice a1 p.lo.length c1, .slice a2 p.af.length c2] 27
  rw [← hW.out]
  refine (impl_ProjectOk p _ _ _ (H1.out.ext E) (H2.out.ext E)).mono ?_
  rintro e w1 ⟨rfl, hb1⟩
  have A0 := A0.ext hb1
  have E := ext_trans E hb1
  obtain ⟨rc0, rz0⟩ := (A0).rules; have rl0 := (A0).lt
  cases hok : p.ok
  · have hf : Hid (p.ordFit h o = false) := by simp [Pj.ordFit, hok]; exact Lib.hid trivial
    clear hok
    go_wp2_with fail
    go_ret
    exact ⟨by rw [hf.out]; rfl, E⟩
  have Hok := Lib.hid hok
  clear hok
  go_wp2_with fail
  refine (impl_isHands h _).mono ?_
  rintro e w2 ⟨rfl, rfl⟩
  cases hh : inB h 1 3
  · have hf : Hid (p.ordFit h o = false) := by simp [Pj.ordFit, hh]; exact Lib.hid trivial
    clear hh
    go_wp2_with fail
    go_ret
    exact ⟨by rw [hf.out]; rfl, E⟩
  have hf : Hid (p.ordFit h o = orderOk o p.lo.length) := by simp [Pj.ordFit, hh, Hok.out]; exact Lib.hid trivial
  clear hh
  go_wp2_with fail
  refine (impl_OrderOk _ o p.lo.length _ (H3.out.ext E) hlen).mono ?_
  rintro e w2 ⟨rfl, rfl⟩
  go_wp2_with fail
  go_ret
  exact ⟨by rw [hf.out]; rfl, E⟩
set_option maxHeartbeats 4000000 in
theorem spec_OrderOk (v : Value) (o : List Int) (m : Nat) (w : World) (hv : Ints w 0 v o) (hm : m ≤ 4000000) :
    Calls Try.prog 41 #[v, .int .i64 m] w fun e w' => e = .returned (.bool (orderOk o m)) ∧ Below w.heap.size w w' := by
  have Hv := Lib.hid hv
  obtain ⟨a, cap, rfl, hn, hc, -⟩ := hv.open
  clear hv
  have hw : IntKind.i64.wrap ((m : Int) - 1) = (m : Int) - 1 := IntWalk.i64_in _ (by omega)
  go_enter Try.func41, Try.ntmps41
  go_wp2_with fail
  go_loopg [5] o.length (fun z k wr => ∃ j : Nat, j ≤ o.length ∧ z = o.length - j ∧ k = .int .i64 j ∧ Below w.heap.size w wr ∧ Hid (∀ i, i < j → ordAt o m i = true))
  case atStart => exact ⟨0, by omega, by omega, rfl, ext_refl _, fun i hi => by omega⟩
  case round =>
    obtain ⟨j, hj, hgk, rfl, hb, Hall⟩ := hrel
    have Hk := Lib.hid hgk
    clear hgk
    by_cases hlt : j < o.length
    · obtain ⟨g, rfl, _, hg, _, k0⟩ := (Hv.out.ext hb).at_ hlt
      obtain ⟨x, Hx⟩ : ∃ x, Hid (x = o.getD j 0) := ⟨_, rfl⟩
      rw [← Hx.out] at k0
      have hat : Hid (ordAt o m j = (inB x 0 ((m : Int) - 1) && (List.range j).all (fun i => o.getD i 0 != x))) := by rw [Hx.out]; exact Lib.hid rfl
      go_wp2_with fail
      refine (spec_l1In _ _ _ _).mono ?_
      rintro e w' ⟨rfl, rfl⟩
      cases hin : inB x 0 ((m : Int) - 1)
      · have hf : Hid (orderOk o m = false) := Lib.hid (order_not hlt (by rw [hat.out, hin]; rfl))
        clear hin
        go_wp2_with fail
        go_ret
        exact ⟨by rw [hf.out]; rfl, hb⟩
      · have Hin := Lib.hid hin
        clear hin
        go_wp2_with fail
        rename World => wr
        go_loopg [6] j (fun z kk wx => ∃ k : Nat, k ≤ j ∧ z = j - k ∧ kk = .int .i64 k ∧ Below wr.heap.size wr wx ∧ Hid (∀ i, i < k → o.getD i 0 ≠ x))
        case atStart => exact ⟨0, by omega, by omega, rfl, ext_refl _, fun i hi => by omega⟩
        case round =>
          rename World => wx
          obtain ⟨k, hkj, hgk, rfl, hbx, Hno⟩ := hrel
          have Hk2 := Lib.hid hgk
          clear hgk
          have hbw := ext_trans hb hbx
          by_cases hlk : k < j
          · have kj : wx.cell? ⟨g, j, none⟩ = some (.int .i64 x) := by rw [(Hv.out.ext hbw).cellJ hlt, Hx.out]
            have kk : wx.cell? ⟨g, k, none⟩ = some (.int .i64 (o.getD k 0)) := (Hv.out.ext hbw).cellJ (by omega)
            obtain ⟨y, Hy⟩ : ∃ y, Hid (y = o.getD k 0) := ⟨_, rfl⟩
            rw [← Hy.out] at kk
            have hkl : k < o.length := by omega
            have hgx : g < wx.heap.size := Nat.lt_of_lt_of_le hg hbx.size
            by_cases hyx : y = x
            · have hE : (y == x) = true := by simp [hyx]
              have hf : Hid (orderOk o m = false) := by
                refine Lib.hid (order_not hlt ?_)
                rw [hat.out, show (List.range j).all (fun i => o.getD i 0 != x) = false from List.all_eq_false.2 ⟨k, List.mem_range.2 hlk, by rw [← Hy.out, hyx]; simp⟩, Bool.and_false]
              clear hyx
              go_wp2_with fail
              go_quiet (fail)
              go_wp2_with fail
              go_ret
              exact ⟨by rw [hf.out]; rfl, ext_trans hbw (ext_drewN3 _ _)⟩
            · have hE : (y == x) = false := by simp [hyx]
              have Hyx := Lib.hid hyx
              clear hyx
              go_wp2_with fail
              go_quiet (fail)
              go_wp2_with fail
              go_roundg (j - (k+1))
              case rel =>
                refine ⟨k+1, by omega, rfl, by go_num, ext_trans hbx (ext_drewN3 _ _), fun i hi => ?_⟩
                by_cases hik : i = k
                · subst hik; rw [← Hy.out]; exact Hyx.out
                · exact Hno.out i (by omega)
              case measure => have := Hk2.out; omega
          · have hkn : k = j := by omega
            have hrow : Hid (ordAt o m j = true) := by
              rw [hat.out, Hin.out, show (List.range j).all (fun i => o.getD i 0 != x) = true from List.all_eq_true.2 fun i hi => by have := Hno.out i (by rw [hkn]; exact List.mem_range.1 hi); simpa using this]
              exact Lib.hid rfl
            clear hkn
            go_wp2_with fail
            go_roundg (o.length - (j+1))
            case rel =>
              refine ⟨j+1, by omega, rfl, by go_num, hbw, fun i hi => ?_⟩
              by_cases hij : i = j
              · subst hij; exact hrow.out
              · exact Hall.out i (by omega)
            case measure => have := Hk.out; omega
    · have hjl : j = o.length := by omega
      subst hjl
      have ho : Hid (orderOk o m = (decide (m ≤ 6) && decide (o.length = m))) := by
        unfold orderOk
        rw [show (List.range o.length).all (ordAt o m) = true from List.all_eq_true.2 fun i hi => Hall.out i (List.mem_range.1 hi)]
        exact Lib.hid rfl
      go_wp2_with fail
      refine (spec_l1In _ _ _ _).mono ?_
      rintro e w' ⟨rfl, rfl⟩
      by_cases h6 : m ≤ 6
      · have e6 : inB (m : Int) 0 6 = true := (inB_iff _ _ _).2 (by omega)
        rw [e6]
        by_cases hl : o.length = m
        · have hE : ((o.length : Int) == (m : Int)) = true := by simp [hl]
          have hf : Hid (orderOk o m = true) := by rw [ho.out, decide_eq_true h6, decide_eq_true hl]; exact Lib.hid rfl
          clear hl
          go_wp2_with fail
          go_ret
          exact ⟨by rw [hf.out]; rfl, hb⟩
        · have hE : ((o.length : Int) == (m : Int)) = false := by simp; omega
          have hf : Hid (orderOk o m = false) := by rw [ho.out, decide_eq_false hl, Bool.and_false]; exact Lib.hid rfl
          clear hl
          go_wp2_with fail
          go_ret
          exact ⟨by rw [hf.out]; rfl, hb⟩
      · have e6 : inB (m : Int) 0 6 = false := by
          cases hc : inB (m : Int) 0 6
          · rfl
          · have := (inB_iff _ _ _).1 hc; omega
        rw [e6]
        have hf : Hid (orderOk o m = false) := by rw [ho.out, decide_eq_false h6]; exact Lib.hid rfl
        go_wp2_with fail
        go_ret
        exact ⟨by rw [hf.out]; rfl, hb⟩
end Go.Proofs.Ytdfcjhcnojgkiaa
