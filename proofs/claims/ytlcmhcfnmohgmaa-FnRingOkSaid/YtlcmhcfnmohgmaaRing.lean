/- Rings of bounds: plain facts, and the walks of RingOk of impl and of spec. No condition but that the bounds and places can be read. -/
import Derived.Test.YtlcmhcfnmohgmaaPlanTurn
import Derived.Test.YtlcmhcfnmohgmaaAllIn
import Derived.BigQuiet
namespace Go.Proofs.Ytlcmhcfnmohgmaa
open Go.RowKit
set_option linter.unusedVariables false
set_option linter.unusedSimpArgs false
theorem ext_drewR (w : World) (n : Nat) : Below w.heap.size w (w.drewN n) := ⟨rfl, rfl, rfl, Nat.le_refl _, fun _ _ => rfl⟩
def bdAt (p : Pl) (x : Int) : Bd := p.bs.getD x.toNat Bd.z
def prI (n k : Nat) : Nat := if k = 0 then n - 1 else k - 1
def nxI (n k : Nat) : Nat := if k + 1 = n then 0 else k + 1
def ringIn (p : Pl) (l : List Int) : Bool := l.all (fun x => inB x 0 ((p.bs.length : Int) - 1))
def stepOk (p : Pl) (l : List Int) (k : Nat) : Bool := (bdAt p (l.getD (prI l.length k) 0)).t == (bdAt p (l.getD k 0)).f
def ringC (p : Pl) (l : List Int) : Bool := (List.range l.length).all (stepOk p l)
def ringOk (p : Pl) (l : List Int) : Bool := (p.ok && (inB l.length 1 16 && ringIn p l)) && ringC p l
theorem ringIn_at {p : Pl} {l : List Int} : ringIn p l = true ↔ ∀ j, j < l.length → 0 ≤ l.getD j 0 ∧ l.getD j 0 ≤ (p.bs.length : Int) - 1 := by
  simp only [ringIn, List.all_eq_true, inB_iff]
  constructor
  · intro h j hj
    exact h _ (by rw [List.getD_eq_getElem?_getD, List.getElem?_eq_getElem hj]; exact List.getElem_mem hj)
  · intro h x hx
    obtain ⟨j, hj, rfl⟩ := List.mem_iff_getElem.1 hx
    have := h j hj
    rw [List.getD_eq_getElem?_getD, List.getElem?_eq_getElem hj] at this
    exact this
theorem ringC_iff {p : Pl} {l : List Int} : ringC p l = true ↔ ∀ k, k < l.length → (bdAt p (l.getD k 0)).t = (bdAt p (l.getD (nxI l.length k) 0)).f := by
  simp only [ringC, stepOk, List.all_eq_true, List.mem_range, beq_iff_eq]
  constructor
  · intro h k hk
    have := h (nxI l.length k) (by unfold nxI; split <;> omega)
    rw [show prI l.length (nxI l.length k) = k by unfold prI nxI; split <;> (try split) <;> omega] at this
    exact this
  · intro h k hk
    have := h (prI l.length k) (by unfold prI; split <;> omega)
    rw [show nxI l.length (prI l.length k) = k by unfold prI nxI; split <;> split <;> omega] at this
    exact this
theorem ring_not {p : Pl} {l : List Int} {k : Nat} (hk : k < l.length) (h : stepOk p l k = false) : ringOk p l = false := by
  have : ringC p l = false := by
    unfold ringC
    rw [List.all_eq_false]
    exact ⟨k, List.mem_range.2 hk, by simp [h]⟩
  unfold ringOk
  rw [this, Bool.and_false]
theorem ring_notS {p : Pl} {l : List Int} {k : Nat} (hk : k < l.length) (h : (bdAt p (l.getD k 0)).t ≠ (bdAt p (l.getD (nxI l.length k) 0)).f) : ringOk p l = false := by
  have : ringC p l = false := by
    cases hc : ringC p l
    · rfl
    · exact absurd (ringC_iff.1 hc k hk) h
  unfold ringOk
  rw [this, Bool.and_false]
theorem ring_notIn {p : Pl} {l : List Int} (h : ringIn p l = false) : ringOk p l = false := by
  unfold ringOk
  rw [h, Bool.and_false, Bool.and_false, Bool.false_and]
/-- a ring begun one bound later -/
def laterR (l : List Int) : List Int := l.drop 1 ++ [l.getD 0 0]
theorem laterR_len {l : List Int} (h : 0 < l.length) : (laterR l).length = l.length := by simp [laterR]; omega
theorem laterR_at {l : List Int} {k : Nat} (hk : k < l.length) : (laterR l).getD k 0 = l.getD (nxI l.length k) 0 := by
  unfold laterR nxI
  rw [List.getD_eq_getElem?_getD]
  by_cases h : k + 1 = l.length
  · rw [if_pos h, List.getElem?_append_right (by rw [List.length_drop]; omega), List.length_drop, show k - (l.length - 1) = 0 by omega]; rfl
  · rw [if_neg h, List.getElem?_append_left (by rw [List.length_drop]; omega), List.getElem?_drop, List.getD_eq_getElem?_getD, Nat.add_comm]
theorem laterR_ring {p : Pl} {l : List Int} (h : 0 < l.length) : ringOk p (laterR l) = ringOk p l := by
  have hl := laterR_len h
  have hi : ringIn p (laterR l) = ringIn p l := by
    rw [Bool.eq_iff_iff, ringIn_at, ringIn_at, hl]
    constructor
    · intro H j hj
      have := H (prI l.length j) (by unfold prI; split <;> omega)
      rw [laterR_at (by unfold prI; split <;> omega), show nxI l.length (prI l.length j) = j by unfold prI nxI; split <;> split <;> omega] at this
      exact this
    · intro H j hj
      rw [laterR_at hj]
      exact H _ (by unfold nxI; split <;> omega)
  have hc : ringC p (laterR l) = ringC p l := by
    rw [Bool.eq_iff_iff, ringC_iff, ringC_iff, hl]
    constructor
    · intro H k hk
      have := H (prI l.length k) (by unfold prI; split <;> omega)
      rw [laterR_at (by unfold prI; split <;> omega), show nxI l.length (prI l.length k) = k by unfold prI nxI; split <;> split <;> omega, laterR_at hk] at this
      exact this
    · intro H k hk
      have hn : nxI l.length k < l.length := by unfold nxI; split <;> omega
      rw [laterR_at hk, laterR_at hn]
      exact H _ hn
  unfold ringOk
  rw [hi, hc, hl]
def backR (l : List Int) : List Int := l.reverse
theorem backR_at {l : List Int} {k : Nat} (hk : k < l.length) : (backR l).getD k 0 = l.getD (l.length - 1 - k) 0 := by
  unfold backR
  rw [List.getD_eq_getElem?_getD, List.getElem?_reverse hk, ← List.getD_eq_getElem?_getD]
theorem turned_ok {p : Pl} (h : p.ok = true) : p.turned.ok = true ∧ p.turned.bs = p.bs.map Bd.turn := by
  have e : p.turned = ⟨p.pts, p.bs.map Bd.turn⟩ := by unfold Pl.turned; rw [if_pos h]
  rw [e]
  simp only [Pl.ok, Bool.and_eq_true, decide_eq_true_eq, List.all_eq_true] at h ⊢
  obtain ⟨h1, h2, h3⟩ := h
  refine ⟨⟨h1, by simpa using h2, fun b hb => ?_⟩, trivial⟩
  simp only [List.mem_map] at hb
  obtain ⟨c, hc, rfl⟩ := hb
  have := h3 c hc
  simp only [Bd.ok, Bd.turn, Bool.and_eq_true] at *
  exact ⟨this.2.1, this.1, this.2.2⟩
theorem bd_turn {bs : List Bd} {x : Nat} (hx : x < bs.length) : (bs.map Bd.turn).getD x Bd.z = (bs.getD x Bd.z).turn := by
  rw [List.getD_eq_getElem?_getD, List.getElem?_map, List.getD_eq_getElem?_getD, List.getElem?_eq_getElem hx]
  rfl
theorem backR_ring (p : Pl) (l : List Int) : ringOk p.turned (backR l) = ringOk p l := by
  have hl : (backR l).length = l.length := List.length_reverse
  cases hok : p.ok
  · have e : p.turned = Pl.zero := by unfold Pl.turned; rw [if_neg (by simp [hok])]
    unfold ringOk
    rw [hok, e]
    rfl
  obtain ⟨h1, h2⟩ := turned_ok hok
  have hi : ringIn p.turned (backR l) = ringIn p l := by
    rw [Bool.eq_iff_iff, ringIn_at, ringIn_at, hl, h2, List.length_map]
    constructor
    · intro H j hj
      have := H (l.length - 1 - j) (by omega)
      rw [backR_at (by omega), show l.length - 1 - (l.length - 1 - j) = j by omega] at this
      exact this
    · intro H j hj
      rw [backR_at hj]
      exact H _ (by omega)
  cases hin : ringIn p l
  · rw [ring_notIn hin, ring_notIn (by rw [hi]; exact hin)]
  have hin' := ringIn_at.1 hin
  have hb : ∀ j, j < l.length → bdAt p.turned (l.getD j 0) = (bdAt p (l.getD j 0)).turn := by
    intro j hj
    have := hin' j hj
    have hj2 : (l.getD j 0).toNat < p.bs.length := by omega
    unfold bdAt
    rw [h2]
    exact bd_turn hj2
  have hc : ringC p.turned (backR l) = ringC p l := by
    rw [Bool.eq_iff_iff, ringC_iff, ringC_iff, hl]
    constructor
    · intro H k hk
      by_cases hkn : k + 1 = l.length
      · have := H k hk
        rw [backR_at hk, backR_at (by unfold nxI; split <;> omega), hb _ (by omega), hb _ (by unfold nxI; split <;> omega)] at this
        rw [show nxI l.length k = 0 by unfold nxI; rw [if_pos hkn]] at this ⊢
        rw [show l.length - 1 - k = 0 by omega, show l.length - 1 - 0 = k by omega] at this
        exact this.symm
      · have := H (l.length - 2 - k) (by omega)
        rw [backR_at (by omega), backR_at (by unfold nxI; split <;> omega), hb _ (by omega), hb _ (by unfold nxI; split <;> omega)] at this
        rw [show nxI l.length (l.length - 2 - k) = l.length - 1 - k by unfold nxI; rw [if_neg (by omega)]; omega, show l.length - 1 - (l.length - 2 - k) = k + 1 by omega, show l.length - 1 - (l.length - 1 - k) = k by omega] at this
        rw [show nxI l.length k = k + 1 by unfold nxI; rw [if_neg hkn]]
        exact this.symm
    · intro H k hk
      rw [backR_at hk, backR_at (by unfold nxI; split <;> omega), hb _ (by omega), hb _ (by unfold nxI; split <;> omega)]
      by_cases hkn : k + 1 = l.length
      · rw [show nxI l.length k = 0 by unfold nxI; rw [if_pos hkn], show l.length - 1 - k = 0 by omega, show l.length - 1 - 0 = k by omega]
        have := H k hk
        rw [show nxI l.length k = 0 by unfold nxI; rw [if_pos hkn]] at this
        exact this.symm
      · have := H (l.length - 2 - k) (by omega)
        rw [show nxI l.length (l.length - 2 - k) = l.length - 1 - k by unfold nxI; rw [if_neg (by omega)]; omega] at this
        rw [show nxI l.length k = k + 1 by unfold nxI; rw [if_neg hkn], show l.length - 1 - (k + 1) = l.length - 2 - k by omega]
        exact this.symm
  unfold ringOk
  rw [hok, h1, hi, hc, hl]
set_option maxRecDepth 100000 in
set_option maxHeartbeats 4000000 in
theorem impl_RingOk (p : Pl) (v1 v2 : Value) (l : List Int) (w : World) (hp : Bds w 0 v1 p.bs) (hv : Ints w 0 v2 l) :
    Calls Try.prog 35 #[.agg #[.int .i64 p.pts, v1], v2] w fun e w' => e = .returned (.bool (ringOk p l)) ∧ Below w.heap.size w w' := by
  have HP := Lib.hid hp; have HV := Lib.hid hv
  obtain ⟨a1, c1, rfl, hn1, hc1, -⟩ := hp.open
  obtain ⟨a2, c2, rfl, hn2, hc2, -⟩ := hv.open
  clear hp hv
  go_enter Try.func35, Try.ntmps35
  go_wp2_with fail
  obtain ⟨W, hW, A0, hs, E⟩ := one_box w #[.int .i64 p.pts, .slice a1 p.bs.length c1] 25
  rw [← hW.out]
  refine (impl_PlanOk p _ _ (HP.out.ext E)).mono ?_
  rintro e w1 ⟨rfl, hb1⟩
  have A0 := A0.ext hb1
  have E := ext_trans E hb1
  obtain ⟨rc0, rz0⟩ := (A0).rules; have rl0 := (A0).lt
  cases hok : p.ok
  · have hf : Hid (ringOk p l = false) := by unfold ringOk; rw [hok]; exact Lib.hid rfl
    clear hok
    go_wp2_with fail
    go_ret
    exact ⟨by rw [hf.out]; rfl, E⟩
  have Hok := Lib.hid hok
  have hbl : p.bs.length ≤ 16 := by
    simp only [Pl.ok, Bool.and_eq_true, decide_eq_true_eq] at hok
    exact hok.2.1
  clear hok hb1
  go_wp2_with fail
  refine (impl_in _ _ _ _).mono ?_
  rintro e w2 ⟨rfl, rfl⟩
  cases hlen : inB (l.length : Int) 1 16
  · have hf : Hid (ringOk p l = false) := by unfold ringOk; rw [hlen]; simp; exact Lib.hid trivial
    clear hlen
    go_wp2_with fail
    go_ret
    exact ⟨by rw [hf.out]; rfl, E⟩
  have hln := (inB_iff _ _ _).1 hlen
  have Hlen := Lib.hid hlen
  have hw : IntKind.i64.wrap ((p.bs.length : Int) - 1) = (p.bs.length : Int) - 1 := IntWalk.i64_in _ (by omega)
  clear hlen
  go_wp2_with fail
  refine (impl_allIn _ l 0 ((p.bs.length : Int) - 1) _ (HV.out.ext E)).mono ?_
  rintro e w2 ⟨rfl, hb2⟩
  have A0 := A0.ext hb2
  have E := ext_trans E hb2
  clear rc0 rz0 rl0 hb2 hw
  obtain ⟨rc0, rz0⟩ := (A0).rules; have rl0 := (A0).lt
  cases hin : ringIn p l
  · have hin2 : (l.all (fun x => inB x 0 ((p.bs.length : Int) - 1))) = false := hin
    have hf : Hid (ringOk p l = false) := Lib.hid (ring_notIn hin)
    rw [hin2]
    clear hin hin2
    go_wp2_with fail
    go_ret
    exact ⟨by rw [hf.out]; rfl, E⟩
  have hin2 : (l.all (fun x => inB x 0 ((p.bs.length : Int) - 1))) = true := hin
  have hf : Hid (ringOk p l = ringC p l) := by unfold ringOk; rw [Hok.out, Hlen.out, hin]; exact Lib.hid rfl
  have Hin := Lib.hid (ringIn_at.1 hin)
  rw [hin2]
  clear hin hin2
  have hread : Hid (∀ wx k, Below w2.heap.size w2 wx → k < l.length → ∃ (g : Nat) (x : Nat), a2 = some ⟨g, 0, none⟩ ∧ g < wx.heap.size ∧ wx.cell? ⟨g, k, none⟩ = some (.int .i64 (x : Int)) ∧ x < p.bs.length ∧ Hid (l.getD k 0 = (x : Int)) ∧
      ∃ h, a1 = some ⟨h, 0, none⟩ ∧ h < wx.heap.size ∧ wx.cell? ⟨h, x * 3, none⟩ = some (.int .i64 (bdAt p (l.getD k 0)).f) ∧ wx.cell? ⟨h, x * 3 + 1, none⟩ = some (.int .i64 (bdAt p (l.getD k 0)).t)) := by
    intro wx k hb hk
    obtain ⟨g, ha, _, hg, _, cx⟩ := ((HV.out.ext E).ext hb).at_ hk
    have hi := Hin.out k hk
    obtain ⟨x, hx⟩ : ∃ x : Nat, l.getD k 0 = (x : Int) := ⟨(l.getD k 0).toNat, by omega⟩
    obtain ⟨h, hh, _, hhl, _, x0, x1, _⟩ := ((HP.out.ext E).ext hb).at_ (j := x) (by omega)
    refine ⟨g, x, ha, hg, by rw [← hx]; exact cx, by omega, Lib.hid hx, h, hh, hhl, ?_, ?_⟩
    · rw [x0]; unfold bdAt; rw [hx]; rfl
    · rw [x1]; unfold bdAt; rw [hx]; rfl
  have hb := ext_refl w2
  obtain ⟨g, x, ha2, hg, cx, hxl, Hx, h, ha1, hh, x0, x1⟩ := hread.out w2 (l.length - 1) hb (by omega)
  subst ha2
  subst ha1
  have hwn : IntKind.i64.wrap ((l.length : Int) - 1) = ((l.length - 1 : Nat) : Int) := by rw [IntWalk.i64_in _ (by omega)]; omega
  obtain ⟨t0, Ht0⟩ : ∃ t, Hid (t = (bdAt p (l.getD (l.length - 1) 0)).t) := ⟨_, rfl⟩
  obtain ⟨f0, Hf0⟩ : ∃ t, Hid (t = (bdAt p (l.getD (l.length - 1) 0)).f) := ⟨_, rfl⟩
  rw [← Ht0.out] at x1
  rw [← Hf0.out] at x0
  have hln1 : l.length - 1 < l.length := by omega
  go_wp2_with fail
  go_quiet (fail)
  go_wp2_with fail
  clear rc0 rz0 rl0 cx x0 x1 hg hh hxl hwn
  go_loopg [5, 39] l.length (fun m ss kk wr => ∃ k : Nat, k ≤ l.length ∧ m = l.length - k ∧ kk = .int .i64 k ∧ ss = .int .i64 (bdAt p (l.getD (prI l.length k) 0)).t ∧ Below w2.heap.size w2 wr ∧ Hid (∀ c, c < k → stepOk p l c = true))
  case atStart => exact ⟨0, by omega, by omega, rfl, by rw [Ht0.out]; rfl, ext_drewR w2 _, Lib.hid fun c hc => by omega⟩
  case round =>
    rename World => wr
    obtain ⟨k, hk, hgk, rfl, rfl, hb, Hall⟩ := hrel
    have Hk := Lib.hid hgk
    clear hgk
    have A1 := A0.ext hb
    have E1 := ext_trans E hb
    obtain ⟨rc0, rz0⟩ := (A1).rules; have rl0 := (A1).lt
    obtain ⟨u, Hu⟩ : ∃ u, Hid (u = (bdAt p (l.getD (prI l.length k) 0)).t) := ⟨_, rfl⟩
    rw [← Hu.out]
    by_cases hlk : k < l.length
    · obtain ⟨_, x, he2, hg, cx, hxl, Hx, _, he1, hh, x0, x1⟩ := hread.out wr k hb hlk
      cases he2
      cases he1
      obtain ⟨f, Hf⟩ : ∃ t, Hid (t = (bdAt p (l.getD k 0)).f) := ⟨_, rfl⟩
      obtain ⟨t, Ht⟩ : ∃ t, Hid (t = (bdAt p (l.getD k 0)).t) := ⟨_, rfl⟩
      rw [← Hf.out] at x0
      rw [← Ht.out] at x1
      have hst : Hid (stepOk p l k = (u == f)) := by rw [Hu.out, Hf.out]; exact Lib.hid rfl
      by_cases hfu : f = u
      · have he : (f != u) = false := by simp [hfu]
        have hst2 : Hid (stepOk p l k = true) := by rw [hst.out, hfu]; simp; exact Lib.hid trivial
        clear hfu
        go_wp2_with fail
        go_roundg (l.length - (k+1))
        case rel =>
          refine ⟨k+1, by omega, rfl, by go_num, by rw [Ht.out]; rfl, hb, Lib.hid fun c hc => ?_⟩
          by_cases hck : c = k
          · subst hck; exact hst2.out
          · exact Hall.out c (by omega)
        case measure => have := Hk.out; omega
      · have he : (f != u) = true := by simp [hfu]
        have hfl : Hid (ringOk p l = false) := by
          refine Lib.hid (ring_not hlk ?_)
          rw [hst.out]
          exact beq_false_of_ne (fun e => hfu e.symm)
        clear hfu
        go_wp2_with fail
        go_ret
        exact ⟨by rw [hfl.out]; rfl, E1⟩
    · have hfl : Hid (ringOk p l = true) := by
        rw [hf.out]
        exact Lib.hid (List.all_eq_true.2 fun c hc => Hall.out c (by have := List.mem_range.1 hc; omega))
      go_wp2_with fail
      go_ret
      exact ⟨by rw [hfl.out]; rfl, E1⟩
set_option maxRecDepth 100000 in
set_option maxHeartbeats 8000000 in
theorem spec_RingOk (p : Pl) (v1 v2 : Value) (l : List Int) (w : World) (hp : Bds w 0 v1 p.bs) (hv : Ints w 0 v2 l) (hbl : p.bs.length ≤ 1000) (hll : l.length ≤ 1000) :
    Calls Try.prog 36 #[.agg #[.int .i64 p.pts, v1], v2] w fun e w' => e = .returned (.bool (ringOk p l)) ∧ Below w.heap.size w w' := by
  have HP := Lib.hid hp; have HV := Lib.hid hv
  obtain ⟨a1, c1, rfl, hn1, hc1, -⟩ := hp.open
  obtain ⟨a2, c2, rfl, hn2, hc2, -⟩ := hv.open
  clear hp hv
  have hw : IntKind.i64.wrap ((p.bs.length : Int) - 1) = (p.bs.length : Int) - 1 := IntWalk.i64_in _ (by omega)
  go_enter Try.func36, Try.ntmps36
  go_wp2_with fail
  obtain ⟨w2, hW, A0, hs, E⟩ := one_box w #[.int .i64 p.pts, .slice a1 p.bs.length c1] 25
  rw [← hW.out]
  go_loopg [5] l.length (fun m kk wr => ∃ k : Nat, k ≤ l.length ∧ m = l.length - k ∧ kk = .int .i64 k ∧ Below w2.heap.size w2 wr ∧ Hid (∀ c, c < k → 0 ≤ l.getD c 0 ∧ l.getD c 0 ≤ (p.bs.length : Int) - 1))
  case atStart => exact ⟨0, by omega, by omega, rfl, ext_refl _, Lib.hid fun c hc => by omega⟩
  case round =>
    rename World => wr
    obtain ⟨k, hk, hgk, rfl, hb, Hall⟩ := hrel
    have Hk := Lib.hid hgk
    clear hgk
    have A1 := A0.ext hb
    have E1 := ext_trans E hb
    obtain ⟨rc0, rz0⟩ := (A1).rules; have rl0 := (A1).lt
    by_cases hlk : k < l.length
    · obtain ⟨g, ha, _, hg, _, cx⟩ := (HV.out.ext E1).at_ hlk
      subst ha
      obtain ⟨x, Hx⟩ : ∃ x, Hid (x = l.getD k 0) := ⟨_, rfl⟩
      rw [← Hx.out] at cx
      cases hin : inB x 0 ((p.bs.length : Int) - 1)
      · have hfl : Hid (ringOk p l = false) := by
          refine Lib.hid (ring_notIn ?_)
          cases hc : ringIn p l
          · rfl
          · have := (inB_iff _ _ _).2 (ringIn_at.1 hc k hlk)
            rw [← Hx.out, hin] at this
            cases this
        go_wp2_with fail
        go_quiet (first | (go_at_call 58; refine Calls.quiet_of_same ((spec_l1In _ _ _ _).mono fun e w' h => ⟨h.1, h.2.symm⟩)))
        try rw [hin]
        go_wp2_with fail
        go_ret
        exact ⟨by rw [hfl.out]; rfl, ext_trans E1 (ext_drewR _ _)⟩
      · have hxx := (inB_iff _ _ _).1 hin
        go_wp2_with fail
        go_quiet (first | (go_at_call 58; refine Calls.quiet_of_same ((spec_l1In _ _ _ _).mono fun e w' h => ⟨h.1, h.2.symm⟩)))
        try rw [hin]
        go_wp2_with fail
        go_roundg (l.length - (k+1))
        case rel =>
          refine ⟨k+1, by omega, rfl, by go_num, ext_trans hb (ext_drewR _ _), Lib.hid fun c hc => ?_⟩
          by_cases hck : c = k
          · subst hck; rw [← Hx.out]; exact hxx
          · exact Hall.out c (by omega)
        case measure => have := Hk.out; omega
    · have hkl : k = l.length := by omega
      subst hkl
      have Hin := Hall
      clear hlk hk Hk Hall A1
      have hread : Hid (∀ wx k, Below w2.heap.size w2 wx → k < l.length → ∃ (g : Nat) (x : Nat), a2 = some ⟨g, 0, none⟩ ∧ g < wx.heap.size ∧ wx.cell? ⟨g, k, none⟩ = some (.int .i64 (x : Int)) ∧ x < p.bs.length ∧ Hid (l.getD k 0 = (x : Int)) ∧
          ∃ h, a1 = some ⟨h, 0, none⟩ ∧ h < wx.heap.size ∧ wx.cell? ⟨h, x * 3, none⟩ = some (.int .i64 (bdAt p (l.getD k 0)).f) ∧ wx.cell? ⟨h, x * 3 + 1, none⟩ = some (.int .i64 (bdAt p (l.getD k 0)).t)) := by
        intro wx k hb hk
        obtain ⟨g, ha, _, hg, _, cx⟩ := ((HV.out.ext E).ext hb).at_ hk
        have hi := Hin.out k hk
        obtain ⟨x, hx⟩ : ∃ x : Nat, l.getD k 0 = (x : Int) := ⟨(l.getD k 0).toNat, by omega⟩
        obtain ⟨h, hh, _, hhl, _, x0, x1, _⟩ := ((HP.out.ext E).ext hb).at_ (j := x) (by omega)
        refine ⟨g, x, ha, hg, by rw [← hx]; exact cx, by omega, Lib.hid hx, h, hh, hhl, ?_, ?_⟩
        · rw [x0]; unfold bdAt; rw [hx]; rfl
        · rw [x1]; unfold bdAt; rw [hx]; rfl
      go_wp2_with fail
      clear rc0 rz0 rl0 hw
      rename World => wr
      go_loopg [6] l.length (fun m kk wx => ∃ k : Nat, k ≤ l.length ∧ m = l.length - k ∧ kk = .int .i64 k ∧ Below w2.heap.size w2 wx ∧ Hid (∀ c, c < k → (bdAt p (l.getD c 0)).t = (bdAt p (l.getD (nxI l.length c) 0)).f))
      case atStart => exact ⟨0, by omega, by omega, rfl, hb, Lib.hid fun c hc => by omega⟩
      case round =>
        rename World => wx
        clear hb E1
        obtain ⟨k, hk, hgk, rfl, hb, Hall⟩ := hrel
        have Hk := Lib.hid hgk
        clear hgk
        have A1 := A0.ext hb
        have E1 := ext_trans E hb
        obtain ⟨rc0, rz0⟩ := (A1).rules; have rl0 := (A1).lt
        by_cases hlk : k < l.length
        · have hnx : nxI l.length k < l.length := by unfold nxI; split <;> omega
          obtain ⟨g, x, ha2, hg, cx, hxl, Hx, h, ha1, hh, x0, x1⟩ := hread.out wx k hb hlk
          obtain ⟨_, y, he2, _, cy, hyl, Hy, _, he1, _, y0, y1⟩ := hread.out wx (nxI l.length k) hb hnx
          subst ha2
          subst ha1
          cases he2
          cases he1
          obtain ⟨t, Ht⟩ : ∃ t, Hid (t = (bdAt p (l.getD k 0)).t) := ⟨_, rfl⟩
          obtain ⟨f, Hf⟩ : ∃ t, Hid (t = (bdAt p (l.getD (nxI l.length k) 0)).f) := ⟨_, rfl⟩
          rw [← Ht.out] at x1
          rw [← Hf.out] at y0
          obtain ⟨nx, Hnx⟩ : ∃ nx, Hid (nx = nxI l.length k) := ⟨_, rfl⟩
          rw [← Hnx.out] at cy hnx
          have hr : ((k : Int) + 1).tmod (l.length : Int) = (nx : Int) := by
            rw [Int.tmod_eq_emod_of_nonneg (by omega), Hnx.out]
            unfold nxI
            split
            · rename_i e; rw [show (k : Int) + 1 = (l.length : Int) by omega, Int.emod_self]; rfl
            · rw [Int.emod_eq_of_lt (by omega) (by omega)]; omega
          have hr2 : ((k : Int) + 1) % (l.length : Int) = (nx : Int) := by rw [← Int.tmod_eq_emod_of_nonneg (by omega)]; exact hr
          have hl0 : ¬ ((l.length : Int) = 0) := by omega
          clear x0 y1
          by_cases hft : t = f
          · have he : (t != f) = false := by simp [hft]
            have hst : Hid ((bdAt p (l.getD k 0)).t = (bdAt p (l.getD (nxI l.length k) 0)).f) := by rw [← Ht.out, ← Hf.out]; exact Lib.hid hft
            clear hft
            go_wp2_with fail
            go_quiet (fail)
            go_wp2_with fail
            go_roundg (l.length - (k+1))
            case rel =>
              refine ⟨k+1, by omega, rfl, by go_num, ext_trans hb (ext_drewR _ _), Lib.hid fun c hc => ?_⟩
              by_cases hck : c = k
              · subst hck; exact hst.out
              · exact Hall.out c (by omega)
            case measure => have := Hk.out; omega
          · have he : (t != f) = true := by simp [hft]
            have hfl : Hid (ringOk p l = false) := Lib.hid (ring_notS hlk (by rw [← Ht.out, ← Hf.out]; exact hft))
            clear hft
            go_wp2_with fail
            go_quiet (fail)
            go_wp2_with fail
            go_ret
            exact ⟨by rw [hfl.out]; rfl, ext_trans E1 (ext_drewR _ _)⟩
        · have hkl : k = l.length := by omega
          have hfl : Hid (ringOk p l = (p.ok && inB (l.length : Int) 1 16)) := by
            have h1 : ringC p l = true := ringC_iff.2 fun c hc => Hall.out c (by omega)
            have h2 : ringIn p l = true := ringIn_at.2 Hin.out
            unfold ringOk
            rw [h1, h2, Bool.and_true, Bool.and_true]
            exact Lib.hid rfl
          clear hkl
          go_wp2_with fail
          refine (spec_PlanOk p _ _ (HP.out.ext E1)).mono ?_
          rintro e w4 ⟨rfl, hb4⟩
          have E1 := ext_trans E1 hb4
          cases hok : p.ok
          · have hfl2 : Hid (ringOk p l = false) := by rw [hfl.out, hok]; exact Lib.hid rfl
            go_wp2_with fail
            go_ret
            exact ⟨by rw [hfl2.out]; rfl, E1⟩
          · have hfl2 : Hid (ringOk p l = inB (l.length : Int) 1 16) := by rw [hfl.out, hok]; exact Lib.hid rfl
            go_wp2_with fail
            refine (spec_l1In _ _ _ _).mono ?_
            rintro e w5 ⟨rfl, rfl⟩
            go_wp2_with fail
            go_ret
            exact ⟨by rw [hfl2.out]; rfl, E1⟩
end Go.Proofs.Ytlcmhcfnmohgmaa
