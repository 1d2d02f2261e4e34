/- The walks of hands at work, of impl: beginsFit, busy, BusyAt, EndOf. Conditions: the numbers can be read; of busy: the project is one, and the numbers are small. -/
import Derived.Test.YtdfcjhcnojgkiaaEarlyOf
import Derived.Test.YtdfcjhcnojgkiaaAllIn
namespace Go.Proofs.Ytdfcjhcnojgkiaa
open Go.RowKit
set_option linter.unusedVariables false
set_option linter.unusedSimpArgs false
theorem Ints.cellJ {w : World} {base n cap gb : Nat} {l : List Int} (h : Ints w base (.slice (some ⟨gb, 0, none⟩) n cap) l) {j : Nat} (hj : j < l.length) : w.cell? ⟨gb, j, none⟩ = some (.int .i64 (l.getD j 0)) := by
  obtain ⟨g, he, _, _, _, hc⟩ := h.at_ hj
  cases he
  exact hc
/-- how many of the first k tasks are being done at a time; -1 for none -/
def busyTo (b L : Nat → Int) (t : Int) : Nat → Int
  | 0 => 0
  | k+1 => if b k ≠ -1 ∧ b k ≤ t ∧ t < b k + L k then busyTo b L t k + 1 else busyTo b L t k
theorem busy_in (b L : Nat → Int) (t : Int) : ∀ k, 0 ≤ busyTo b L t k ∧ busyTo b L t k ≤ k
  | 0 => ⟨Int.le_refl _, Int.le_refl _⟩
  | k+1 => by have := busy_in b L t k; unfold busyTo; split <;> omega
def lF (l : List Int) : Nat → Int := fun j => l.getD j 0
def Pj.fit (p : Pj) (l : List Int) : Bool := p.ok && (decide (l.length = p.lo.length) && l.all (fun n => inB n 0 2000))
theorem fit_in {p : Pj} {l : List Int} (h : p.fit l = true) : p.ok = true ∧ l.length = p.lo.length ∧ ∀ j, j < l.length → 0 ≤ l.getD j 0 ∧ l.getD j 0 ≤ 2000 := by
  simp only [Pj.fit, Bool.and_eq_true, decide_eq_true_eq, List.all_eq_true] at h
  refine ⟨h.1, h.2.1, fun j hj => ?_⟩
  have := h.2.2 (l.getD j 0) (by rw [List.getD_eq_getElem?_getD, List.getElem?_eq_getElem hj]; exact List.getElem_mem hj)
  exact (inB_iff _ _ _).1 this
theorem fit_mk {p : Pj} {l : List Int} (h1 : p.ok = true) (h2 : l.length = p.lo.length) (h3 : ∀ j, j < l.length → inB (l.getD j 0) 0 2000 = true) : p.fit l = true := by
  simp only [Pj.fit, Bool.and_eq_true, decide_eq_true_eq, List.all_eq_true]
  refine ⟨h1, h2, fun x hx => ?_⟩
  obtain ⟨j, hj, rfl⟩ := List.mem_iff_getElem.1 hx
  have := h3 j hj
  rw [List.getD_eq_getElem?_getD, List.getElem?_eq_getElem hj] at this
  exact this
def Pj.busyAt (p : Pj) (l : List Int) (t : Int) : Int := if p.fit l && inB t 0 2000 then busyTo (lF l) p.L t p.lo.length else -1
def Pj.endOf (p : Pj) (l : List Int) : Int := if p.fit l then endUp p.L (lF l) p.lo.length else -1
set_option maxRecDepth 100000 in
set_option maxHeartbeats 4000000 in
theorem impl_busy (p : Pj) (v1 v2 v3 : Value) (l : List Int) (t : Int) (w : World) (h1 : Ints w 0 v1 p.lo) (h2 : Ints w 0 v2 p.af) (h3 : Ints w 0 v3 l) (hok : p.ok = true) (hl : l.length = p.lo.length)
    (hr : ∀ j, j < l.length → -1 ≤ l.getD j 0 ∧ l.getD j 0 ≤ 900000) :
    Calls Try.prog 38 #[.agg #[v1, v2], v3, .int .i64 t] w fun e w' => e = .returned (.int .i64 (busyTo (lF l) p.L t p.lo.length)) ∧ Below w.heap.size w w' := by
  have H1 := Lib.hid h1; have H3 := Lib.hid h3
  obtain ⟨a1, c1, rfl, hn1, hc1, -⟩ := h1.open
  obtain ⟨a2, c2, rfl, hn2, hc2, -⟩ := h2.open
  obtain ⟨a3, c3, rfl, hn3, hc3, -⟩ := h3.open
  obtain ⟨hl6, haf, hLs, hAs⟩ := ok_upto hok
  have HLs := Lib.hid hLs; have Hr := Lib.hid hr
  obtain ⟨n, hn⟩ : ∃ n, Hid (n = p.lo.length) := ⟨_, rfl⟩
  have hn3' : Hid (l.length = n) := by rw [hn.out]; exact hl
  rw [← hn.out] at hl6 hn1 ⊢
  rw [hn3'.out] at hn3 ⊢
  clear h1 h2 h3 hok haf hLs hAs hl hr
  go_enter Try.func38, Try.ntmps38
  go_wp2_with fail
  obtain ⟨W, hW, A0, hs, E⟩ := one_box w #[.slice a1 n c1, .slice a2 p.af.length c2] 27
  rw [← hW.out]
  obtain ⟨rc0, rz0⟩ := (A0).rules; have rl0 := (A0).lt
  go_loopg [7, 12] n (fun m s kk wr => ∃ k : Nat, k ≤ n ∧ m = n - k ∧ kk = .int .i64 k ∧ s = .int .i64 (busyTo (lF l) p.L t k) ∧ wr = W)
  case atStart => exact ⟨0, by omega, by omega, rfl, rfl, rfl⟩
  case round =>
    obtain ⟨k, hk, hgk, rfl, rfl, rfl⟩ := hrel
    have Hk := Lib.hid hgk
    clear hgk
    have hs := busy_in (lF l) p.L t k
    obtain ⟨s, Hs⟩ : ∃ s, Hid (s = busyTo (lF l) p.L t k) := ⟨_, rfl⟩
    rw [← Hs.out] at hs ⊢
    by_cases hlt : k < n
    · have hkn : k < p.lo.length := by rw [← hn.out]; exact hlt
      have hkl : k < l.length := by rw [hn3'.out]; exact hlt
      obtain ⟨g1, ha1, _, hg1, _, cy⟩ := (H1.out.ext E).at_ hkn
      subst ha1
      obtain ⟨g3, ha3, _, hg3, _, cx⟩ := (H3.out.ext E).at_ hkl
      subst ha3
      have hy := HLs.out k hkn
      have hx := Hr.out k hkl
      obtain ⟨x, Hx⟩ : ∃ x, Hid (x = l.getD k 0) := ⟨_, rfl⟩
      obtain ⟨y, Hy⟩ : ∃ y, Hid (y = p.L k) := ⟨_, rfl⟩
      have hnext : Hid (busyTo (lF l) p.L t (k+1) = if x ≠ -1 ∧ x ≤ t ∧ t < x + y then s + 1 else s) := by rw [Hx.out, Hy.out, Hs.out]; exact Lib.hid rfl
      rw [← Hx.out] at cx hx
      rw [show p.lo.getD k 0 = y from Hy.out.symm] at cy
      rw [← Hy.out] at hy
      clear hkn hkl
      by_cases h1 : x = -1
      · have hb : (x != -1) = false := by simp [h1]
        have hnx := hnext.out
        rw [if_neg (by omega)] at hnx
        have Hnx := Lib.hid hnx
        have H1x := Lib.hid h1
        clear hnx h1
        go_wp2_with fail
        go_roundg (n - (k+1))
        case rel => exact ⟨k+1, by omega, rfl, by go_num, by rw [Hnx.out], rfl⟩
        case measure => have := Hk.out; omega
      · have hb : (x != -1) = true := by simp [h1]
        have hx0 : 0 ≤ x := by omega
        by_cases h2 : x ≤ t
        · by_cases h3 : t < x + y
          · have Hnx : Hid (busyTo (lF l) p.L t (k+1) = s + 1) := by rw [hnext.out, if_pos ⟨h1, h2, h3⟩]; exact Lib.hid rfl
            clear h1
            go_wp2_with fail
            go_roundg (n - (k+1))
            case rel => exact ⟨k+1, by omega, rfl, by go_num, by rw [Hnx.out], rfl⟩
            case measure => have := Hk.out; omega
          · have Hnx : Hid (busyTo (lF l) p.L t (k+1) = s) := by rw [hnext.out, if_neg (by omega)]; exact Lib.hid rfl
            clear h1
            go_wp2_with fail
            go_roundg (n - (k+1))
            case rel => exact ⟨k+1, by omega, rfl, by go_num, by rw [Hnx.out], rfl⟩
            case measure => have := Hk.out; omega
        · have Hnx : Hid (busyTo (lF l) p.L t (k+1) = s) := by rw [hnext.out, if_neg (by omega)]; exact Lib.hid rfl
          clear h1
          go_wp2_with fail
          go_roundg (n - (k+1))
          case rel => exact ⟨k+1, by omega, rfl, by go_num, by rw [Hnx.out], rfl⟩
          case measure => have := Hk.out; omega
    · have hkn : k = n := by omega
      subst hkn
      go_wp2_with fail
      go_ret
      exact ⟨by rw [← Hs.out]; rfl, E⟩
set_option maxHeartbeats 2000000 in
theorem impl_beginsFit (p : Pj) (v1 v2 v3 : Value) (l : List Int) (w : World) (h1 : Ints w 0 v1 p.lo) (h2 : Ints w 0 v2 p.af) (h3 : Ints w 0 v3 l) :
    Calls Try.prog 35 #[.agg #[v1, v2], v3] w fun e w' => e = .returned (.bool (p.fit l)) ∧ Below w.heap.size w w' := by
  have H1 := Lib.hid h1; have H2 := Lib.hid h2; have H3 := Lib.hid h3
  obtain ⟨a1, c1, rfl, hn1, hc1, -⟩ := h1.open
  obtain ⟨a2, c2, rfl, hn2, hc2, -⟩ := h2.open
  obtain ⟨a3, c3, rfl, hn3, hc3, -⟩ := h3.open
  clear h1 h2 h3
  by_cases hl : l.length = p.lo.length
  · have he : ((l.length : Int) == (p.lo.length : Int)) = true := by simp [hl]
    have Hl := Lib.hid hl
    clear hl
    go_enter Try.func35, Try.ntmps35
    go_wp2_with fail
    obtain ⟨W, hW, A0, hs, E⟩ := one_box w #[.slice a1 p.lo.length c1, .slice a2 p.af.length c2] 27
    rw [← hW.out]
    refine (impl_ProjectOk p _ _ _ (H1.out.ext E) (H2.out.ext E)).mono ?_
    rintro e w1 ⟨rfl, hb1⟩
    have A0 := A0.ext hb1
    have E := ext_trans E hb1
    obtain ⟨rc0, rz0⟩ := (A0).rules; have rl0 := (A0).lt
    cases hok : p.ok
    · have Hok := Lib.hid hok
      clear hok
      go_wp2_with fail
      go_ret
      exact ⟨by rw [show p.fit l = false by simp [Pj.fit, Hok.out]]; rfl, E⟩
    · have Hok := Lib.hid hok
      clear hok
      go_wp2_with fail
      refine (impl_allIn _ l 0 2000 _ (H3.out.ext E)).mono ?_
      rintro e w2 ⟨rfl, hb2⟩
      have E := ext_trans E hb2
      have hr : Hid (p.fit l = l.all (fun n => inB n 0 2000)) := by simp [Pj.fit, Hok.out, Hl.out]; exact Lib.hid trivial
      go_wp2_with fail
      go_ret
      exact ⟨by rw [hr.out]; rfl, E⟩
  · have he : ((l.length : Int) == (p.lo.length : Int)) = false := beq_false_of_ne (by omega)
    have Hl := Lib.hid hl
    have Hf : Hid (p.fit l = false) := by simp [Pj.fit, hl]; exact Lib.hid trivial
    clear hl
    go_enter Try.func35, Try.ntmps35
    go_wp2_with fail
    obtain ⟨W, hW, A0, hs, E⟩ := one_box w #[.slice a1 p.lo.length c1, .slice a2 p.af.length c2] 27
    rw [← hW.out]
    refine (impl_ProjectOk p _ _ _ (H1.out.ext E) (H2.out.ext E)).mono ?_
    rintro e w1 ⟨rfl, hb1⟩
    have A0 := A0.ext hb1
    have E := ext_trans E hb1
    obtain ⟨rc0, rz0⟩ := (A0).rules; have rl0 := (A0).lt
    cases hok : p.ok
    · go_wp2_with fail
      go_ret
      exact ⟨by rw [Hf.out]; rfl, E⟩
    · go_wp2_with fail
      go_ret
      exact ⟨by rw [Hf.out]; rfl, E⟩
theorem impl_isHands (h : Int) (w : World) : Calls Try.prog 36 #[.int .i64 h] w fun e w' => e = .returned (.bool (inB h 1 3)) ∧ w = w' := by
  go_enter Try.func36, Try.ntmps36
  go_wp2_with fail
  refine (impl_in _ _ _ _).mono ?_
  rintro e w' ⟨rfl, rfl⟩
  go_wp2_with fail
  go_ret
  exact ⟨rfl, rfl⟩
set_option maxHeartbeats 2000000 in
theorem impl_EndOf (p : Pj) (v1 v2 v3 : Value) (l : List Int) (w : World) (h1 : Ints w 0 v1 p.lo) (h2 : Ints w 0 v2 p.af) (h3 : Ints w 0 v3 l) :
    Calls Try.prog 28 #[.agg #[v1, v2], v3] w fun e w' => e = .returned (.int .i64 (p.endOf l)) ∧ Below w.heap.size w w' := by
  have H1 := Lib.hid h1; have H2 := Lib.hid h2; have H3 := Lib.hid h3
  obtain ⟨a1, c1, rfl, hn1, hc1, -⟩ := h1.open
  obtain ⟨a2, c2, rfl, hn2, hc2, -⟩ := h2.open
  obtain ⟨a3, c3, rfl, hn3, hc3, -⟩ := h3.open
  clear h1 h2 h3
  go_enter Try.func28, Try.ntmps28
  go_wp2_with fail
  obtain ⟨W, hW, A0, hs, E⟩ := one_box w #[.slice a1 p.lo.length c1, .slice a2 p.af.length c2] 27
  rw [← hW.out]
  refine (impl_beginsFit p _ _ _ l _ (H1.out.ext E) (H2.out.ext E) (H3.out.ext E)).mono ?_
  rintro e w1 ⟨rfl, hb1⟩
  have A0 := A0.ext hb1
  have E := ext_trans E hb1
  obtain ⟨rc0, rz0⟩ := (A0).rules; have rl0 := (A0).lt
  cases hf : p.fit l
  · have Hf : Hid (p.endOf l = -1) := if_neg (by simp [hf])
    clear hf
    go_wp2_with fail
    go_ret
    exact ⟨by rw [Hf.out]; rfl, E⟩
  · have Hf : Hid (p.endOf l = endUp p.L (lF l) p.lo.length) := if_pos hf
    have hin := Lib.hid (fit_in hf)
    clear hf
    go_wp2_with fail
    refine (impl_end p _ _ _ l _ (H1.out.ext E) (H2.out.ext E) (H3.out.ext E) hin.out.1 hin.out.2.1 (fun j hj => by have := hin.out.2.2 j hj; omega)).mono ?_
    rintro e w2 ⟨rfl, hb2⟩
    go_wp2_with fail
    go_ret
    exact ⟨by rw [Hf.out]; rfl, ext_trans E hb2⟩
theorem impl_isClock (t : Int) (w : World) : Calls Try.prog 52 #[.int .i64 t] w fun e w' => e = .returned (.bool (inB t 0 2000)) ∧ w = w' := by
  go_enter Try.func52, Try.ntmps52
  go_wp2_with fail
  refine (impl_in _ _ _ _).mono ?_
  rintro e w' ⟨rfl, rfl⟩
  go_wp2_with fail
  go_ret
  exact ⟨rfl, rfl⟩
set_option maxHeartbeats 2000000 in
theorem impl_BusyAt (p : Pj) (v1 v2 v3 : Value) (l : List Int) (t : Int) (w : World) (h1 : Ints w 0 v1 p.lo) (h2 : Ints w 0 v2 p.af) (h3 : Ints w 0 v3 l) :
    Calls Try.prog 29 #[.agg #[v1, v2], v3, .int .i64 t] w fun e w' => e = .returned (.int .i64 (p.busyAt l t)) ∧ Below w.heap.size w w' := by
  have H1 := Lib.hid h1; have H2 := Lib.hid h2; have H3 := Lib.hid h3
  obtain ⟨a1, c1, rfl, hn1, hc1, -⟩ := h1.open
  obtain ⟨a2, c2, rfl, hn2, hc2, -⟩ := h2.open
  obtain ⟨a3, c3, rfl, hn3, hc3, -⟩ := h3.open
  clear h1 h2 h3
  go_enter Try.func29, Try.ntmps29
  go_wp2_with fail
  obtain ⟨W, hW, A0, hs, E⟩ := one_box w #[.slice a1 p.lo.length c1, .slice a2 p.af.length c2] 27
  rw [← hW.out]
  refine (impl_beginsFit p _ _ _ l _ (H1.out.ext E) (H2.out.ext E) (H3.out.ext E)).mono ?_
  rintro e w1 ⟨rfl, hb1⟩
  have A0 := A0.ext hb1
  have E := ext_trans E hb1
  obtain ⟨rc0, rz0⟩ := (A0).rules; have rl0 := (A0).lt
  cases hf : p.fit l
  · have Hf : Hid (p.busyAt l t = -1) := if_neg (by simp [hf])
    clear hf
    go_wp2_with fail
    go_ret
    exact ⟨by rw [Hf.out]; rfl, E⟩
  · have HF := Lib.hid hf
    have hin := Lib.hid (fit_in hf)
    clear hf
    go_wp2_with fail
    refine (impl_isClock t _).mono ?_
    rintro e w2 ⟨rfl, rfl⟩
    cases ht : inB t 0 2000
    · have Hf : Hid (p.busyAt l t = -1) := if_neg (by simp [HF.out, ht])
      clear ht
      go_wp2_with fail
      go_ret
      exact ⟨by rw [Hf.out]; rfl, E⟩
    · have Hf : Hid (p.busyAt l t = busyTo (lF l) p.L t p.lo.length) := if_pos (by simp [HF.out, ht])
      clear ht
      go_wp2_with fail
      refine (impl_busy p _ _ _ l t _ (H1.out.ext E) (H2.out.ext E) (H3.out.ext E) hin.out.1 hin.out.2.1 (fun j hj => by have := hin.out.2.2 j hj; omega)).mono ?_
      rintro e w3 ⟨rfl, hb3⟩
      go_wp2_with fail
      go_ret
      exact ⟨by rw [Hf.out]; rfl, ext_trans E hb3⟩
end Go.Proofs.Ytdfcjhcnojgkiaa
