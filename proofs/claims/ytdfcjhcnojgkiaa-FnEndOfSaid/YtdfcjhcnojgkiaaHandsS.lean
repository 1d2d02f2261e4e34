/- The walks of spec's BusyAt and EndOf. No condition but that the numbers can be read. -/
import Derived.Test.YtdfcjhcnojgkiaaBegins
namespace Go.Proofs.Ytdfcjhcnojgkiaa
open Go.RowKit
set_option linter.unusedVariables false
set_option linter.unusedSimpArgs false
theorem ext_drewN3 (w : World) (n : Nat) : Below w.heap.size w (w.drewN n) := ⟨rfl, rfl, rfl, Nat.le_refl _, fun _ _ => rfl⟩
theorem fit_not {p : Pj} {l : List Int} {j : Nat} (hj : j < l.length) (h : inB (l.getD j 0) 0 2000 = false) : p.fit l = false := by
  cases hf : p.fit l
  · rfl
  · have := (fit_in hf).2.2 j hj
    rw [(inB_iff _ _ _).2 this] at h; cases h
set_option maxRecDepth 100000 in
set_option maxHeartbeats 8000000 in
theorem spec_BusyAt (p : Pj) (v1 v2 v3 : Value) (l : List Int) (t : Int) (w : World) (h1 : Ints w 0 v1 p.lo) (h2 : Ints w 0 v2 p.af) (h3 : Ints w 0 v3 l) :
    Calls Try.prog 26 #[.agg #[v1, v2], v3, .int .i64 t] w fun e w' => e = .returned (.int .i64 (p.busyAt l t)) ∧ Below w.heap.size w w' := by
  have H1 := Lib.hid h1; have H2 := Lib.hid h2; have H3 := Lib.hid h3
  obtain ⟨a1, c1, rfl, hn1, hc1, -⟩ := h1.open
  obtain ⟨a2, c2, rfl, hn2, hc2, -⟩ := h2.open
  obtain ⟨a3, c3, rfl, hn3, hc3, -⟩ := h3.open
  clear h1 h2 h3
  by_cases hl : l.length = p.lo.length
  · have he : ((l.length : Int) != (p.lo.length : Int)) = false := by simp [hl]
    have Hl := Lib.hid hl
    clear hl
    go_enter Try.func26, Try.ntmps26
    go_wp2_with fail
    obtain ⟨W, hW, A0, hs, E⟩ := one_box w #[.slice a1 p.lo.length c1, .slice a2 p.af.length c2] 27
    rw [← hW.out]
    refine (spec_ProjectOk p _ _ _ (H1.out.ext E) (H2.out.ext E)).mono ?_
    rintro e w1 ⟨rfl, hb1⟩
    have A0 := A0.ext hb1
    have E := ext_trans E hb1
    obtain ⟨rc0, rz0⟩ := (A0).rules; have rl0 := (A0).lt
    cases hok : p.ok
    · have Hf : Hid (p.busyAt l t = -1) := if_neg (by simp [Pj.fit, hok])
      clear hok
      go_wp2_with fail
      go_ret
      exact ⟨by rw [Hf.out]; rfl, E⟩
    have Hok := Lib.hid hok
    obtain ⟨hl6, haf, hLs, hAs⟩ := ok_upto hok
    have HLs := Lib.hid hLs
    clear hok haf hLs hAs
    go_wp2_with fail
    refine (spec_l1In _ _ _ _).mono ?_
    rintro e w2 ⟨rfl, rfl⟩
    cases ht : inB t 0 2000
    · have Hf : Hid (p.busyAt l t = -1) := if_neg (by simp [ht])
      clear ht
      go_wp2_with fail
      go_ret
      exact ⟨by rw [Hf.out]; rfl, E⟩
    have Ht := Lib.hid ht
    have htt := (inB_iff _ _ _).1 ht
    clear ht
    go_wp2_with fail
    clear rc0 rz0 rl0
    go_loopg [7, 8] l.length (fun m ss kk wr => ∃ k : Nat, k ≤ l.length ∧ m = l.length - k ∧ kk = .int .i64 k ∧ ss = .int .i64 (busyTo (lF l) p.L t k) ∧ Below w1.heap.size w1 wr ∧ Hid (∀ c, c < k → inB (l.getD c 0) 0 2000 = true))
    case atStart => exact ⟨0, by omega, by omega, rfl, rfl, ext_refl _, fun c hc => by omega⟩
    case round =>
      obtain ⟨k, hk, hgk, rfl, rfl, hb, Hall⟩ := hrel
      have Hk := Lib.hid hgk
      clear hgk
      have hsb := busy_in (lF l) p.L t k
      obtain ⟨s, Hs⟩ : ∃ s, Hid (s = busyTo (lF l) p.L t k) := ⟨_, rfl⟩
      rw [← Hs.out] at hsb ⊢
      have A1 := A0.ext hb
      obtain ⟨rc1, rz1⟩ := (A1).rules; have rl1 := (A1).lt
      by_cases hlk : k < l.length
      · have hkl : k < p.lo.length := by rw [← Hl.out]; exact hlk
        obtain ⟨g1, ha1, _, hg1, _, cy⟩ := ((H1.out.ext E).ext hb).at_ hkl
        subst ha1
        obtain ⟨g3, ha3, _, hg3, _, cx⟩ := ((H3.out.ext E).ext hb).at_ hlk
        subst ha3
        have hy := HLs.out k hkl
        obtain ⟨x, Hx⟩ : ∃ x, Hid (x = l.getD k 0) := ⟨_, rfl⟩
        obtain ⟨y, Hy⟩ : ∃ y, Hid (y = p.L k) := ⟨_, rfl⟩
        rw [← Hx.out] at cx
        rw [show p.lo.getD k 0 = y from Hy.out.symm] at cy
        rw [← Hy.out] at hy
        have hnext : Hid (busyTo (lF l) p.L t (k+1) = if x ≠ -1 ∧ x ≤ t ∧ t < x + y then s + 1 else s) := by rw [Hx.out, Hy.out, Hs.out]; exact Lib.hid rfl
        go_wp2_with fail
        refine (spec_l1In _ _ _ _).mono ?_
        rintro e w3 ⟨rfl, rfl⟩
        cases hin : inB x 0 2000
        · have Hf : Hid (p.busyAt l t = -1) := if_neg (by rw [fit_not hlk (by rw [← Hx.out]; exact hin)]; simp)
          clear hin
          go_wp2_with fail
          go_ret
          exact ⟨by rw [Hf.out]; rfl, ext_trans E hb⟩
        · have hxx := (inB_iff _ _ _).1 hin
          have hall : Hid (∀ c, c < k + 1 → inB (l.getD c 0) 0 2000 = true) := fun c hc => by
            by_cases hck : c = k
            · subst hck; rw [← Hx.out]; exact hin
            · exact Hall.out c (by omega)
          have hw : IntKind.i64.wrap (x + y) = x + y := IntWalk.i64_in _ (by omega)
          clear hin
          by_cases h2 : x ≤ t
          · by_cases h3 : t < x + y
            · have Hnx : Hid (busyTo (lF l) p.L t (k+1) = s + 1) := by rw [hnext.out, if_pos ⟨by omega, h2, h3⟩]; exact Lib.hid rfl
              have hd1 : decide (x ≤ t) = true := decide_eq_true h2
              have hd2 : decide (t < x + y) = true := decide_eq_true h3
              go_wp2_with fail
              go_quiet (fail)
              go_wp2_with fail
              go_roundg (l.length - (k+1))
              case rel => exact ⟨k+1, by omega, rfl, by go_num, by rw [Hnx.out], ext_trans hb (ext_drewN3 _ _), hall⟩
              case measure => have := Hk.out; omega
            · have Hnx : Hid (busyTo (lF l) p.L t (k+1) = s) := by rw [hnext.out, if_neg (by omega)]; exact Lib.hid rfl
              have hd1 : decide (x ≤ t) = true := decide_eq_true h2
              have hd2 : decide (t < x + y) = false := decide_eq_false h3
              go_wp2_with fail
              go_quiet (fail)
              go_wp2_with fail
              go_roundg (l.length - (k+1))
              case rel => exact ⟨k+1, by omega, rfl, by go_num, by rw [Hnx.out], ext_trans hb (ext_drewN3 _ _), hall⟩
              case measure => have := Hk.out; omega
          · have Hnx : Hid (busyTo (lF l) p.L t (k+1) = s) := by rw [hnext.out, if_neg (by omega)]; exact Lib.hid rfl
            have hd1 : decide (x ≤ t) = false := decide_eq_false h2
            go_wp2_with fail
            go_quiet (fail)
            go_wp2_with fail
            go_roundg (l.length - (k+1))
            case rel => exact ⟨k+1, by omega, rfl, by go_num, by rw [Hnx.out], ext_trans hb (ext_drewN3 _ _), hall⟩
            case measure => have := Hk.out; omega
      · have hkn : k = l.length := by omega
        subst hkn
        have Hf : Hid (p.busyAt l t = s) := by
          rw [Hs.out, Hl.out]
          exact if_pos (by rw [fit_mk Hok.out Hl.out Hall.out, Ht.out]; rfl)
        go_wp2_with fail
        go_ret
        exact ⟨by rw [Hf.out]; rfl, ext_trans E hb⟩
  · have he : ((l.length : Int) != (p.lo.length : Int)) = true := by simp; omega
    have Hf : Hid (p.busyAt l t = -1) := if_neg (by simp [Pj.fit, hl])
    clear hl
    go_enter Try.func26, Try.ntmps26
    go_wp2_with fail
    obtain ⟨W, hW, A0, hs, E⟩ := one_box w #[.slice a1 p.lo.length c1, .slice a2 p.af.length c2] 27
    rw [← hW.out]
    refine (spec_ProjectOk p _ _ _ (H1.out.ext E) (H2.out.ext E)).mono ?_
    rintro e w1 ⟨rfl, hb1⟩
    have A0 := A0.ext hb1
    have E := ext_trans E hb1
    obtain ⟨rc0, rz0⟩ := (A0).rules; have rl0 := (A0).lt
    cases hok : p.ok
    · go_wp2_with fail
      go_ret
      exact ⟨by rw [Hf.out]; rfl, E⟩
    · go_wp2_with fail
      go_ret
      exact ⟨by rw [Hf.out]; rfl, E⟩
theorem busyAt_zero (p : Pj) (l : List Int) : (p.fit l = true → 0 ≤ p.busyAt l 0) ∧ (p.fit l = false → p.busyAt l 0 = -1) := by
  constructor
  · intro h
    have e : p.busyAt l 0 = busyTo (lF l) p.L 0 p.lo.length := if_pos (by rw [h]; rfl)
    rw [e]; exact (busy_in _ _ _ _).1
  · intro h
    exact if_neg (by simp [h])
set_option maxRecDepth 100000 in
set_option maxHeartbeats 4000000 in
theorem spec_EndOf (p : Pj) (v1 v2 v3 : Value) (l : List Int) (w : World) (h1 : Ints w 0 v1 p.lo) (h2 : Ints w 0 v2 p.af) (h3 : Ints w 0 v3 l) :
    Calls Try.prog 31 #[.agg #[v1, v2], v3] w fun e w' => e = .returned (.int .i64 (p.endOf l)) ∧ Below w.heap.size w w' := by
  have H1 := Lib.hid h1; have H2 := Lib.hid h2; have H3 := Lib.hid h3
  obtain ⟨a1, c1, rfl, hn1, hc1, -⟩ := h1.open
  obtain ⟨a2, c2, rfl, hn2, hc2, -⟩ := h2.open
  obtain ⟨a3, c3, rfl, hn3, hc3, -⟩ := h3.open
  clear h1 h2 h3
  go_enter Try.func31, Try.ntmps31
  go_wp2_with fail
  obtain ⟨W, hW, A0, hs, E⟩ := one_box w #[.slice a1 p.lo.length c1, .slice a2 p.af.length c2] 27
  rw [← hW.out]
  refine (spec_BusyAt p _ _ _ l 0 _ (H1.out.ext E) (H2.out.ext E) (H3.out.ext E)).mono ?_
  rintro e w1 ⟨rfl, hb1⟩
  have A0 := A0.ext hb1
  have E := ext_trans E hb1
  have hz := busyAt_zero p l
  obtain ⟨z, Hz⟩ : ∃ z, Hid (z = p.busyAt l 0) := ⟨_, rfl⟩
  rw [← Hz.out] at hz ⊢
  cases hf : p.fit l
  · have hz1 := hz.2 hf
    have hz2 : z < 0 := by omega
    have Hf : Hid (p.endOf l = -1) := if_neg (by simp [hf])
    clear hf hz hz1
    go_wp2_with fail
    go_ret
    exact ⟨by rw [Hf.out]; rfl, E⟩
  have hz2 : 0 ≤ z := hz.1 hf
  have Hf : Hid (p.endOf l = endUp p.L (lF l) p.lo.length) := if_pos hf
  obtain ⟨hok, hln, hlr⟩ := fit_in hf
  obtain ⟨hl6, haf, hLs, hAs⟩ := ok_upto hok
  have HLs := Lib.hid hLs; have Hln := Lib.hid hln; have Hlr := Lib.hid hlr
  have hup : Hid (∀ i, i ≤ l.length → 0 ≤ endUp p.L (lF l) i ∧ endUp p.L (lF l) i ≤ 10000) := fun i hi => end_bd i fun j hj => by have := hLs j (by omega); have := hlr j (by omega); show l.getD j 0 + _ ≤ _; omega
  clear hf hz hok hln hlr haf hLs hAs
  go_wp2_with fail
  go_loopg [5, 6] l.length (fun m s kk wr => ∃ k : Nat, k ≤ l.length ∧ m = l.length - k ∧ kk = .int .i64 k ∧ s = .int .i64 (endUp p.L (lF l) k) ∧ Below w1.heap.size w1 wr)
  case atStart => exact ⟨0, by omega, by omega, rfl, rfl, ext_refl _⟩
  case round =>
    obtain ⟨k, hk, hgk, rfl, rfl, hb⟩ := hrel
    have Hk := Lib.hid hgk
    clear hgk
    have hs := hup.out k hk
    obtain ⟨s, Hs⟩ : ∃ s, Hid (s = endUp p.L (lF l) k) := ⟨_, rfl⟩
    rw [← Hs.out] at hs ⊢
    have A1 := A0.ext hb
    obtain ⟨rc1, rz1⟩ := (A1).rules; have rl1 := (A1).lt
    by_cases hlk : k < l.length
    · have hkl : k < p.lo.length := by rw [← Hln.out]; exact hlk
      obtain ⟨g1, ha1, _, hg1, _, cy⟩ := ((H1.out.ext E).ext hb).at_ hkl
      subst ha1
      obtain ⟨g3, ha3, _, hg3, _, cx⟩ := ((H3.out.ext E).ext hb).at_ hlk
      subst ha3
      have hy := HLs.out k hkl
      have hx := Hlr.out k hlk
      obtain ⟨x, Hx⟩ : ∃ x, Hid (x = l.getD k 0) := ⟨_, rfl⟩
      obtain ⟨y, Hy⟩ : ∃ y, Hid (y = p.L k) := ⟨_, rfl⟩
      rw [← Hx.out] at cx hx
      rw [show p.lo.getD k 0 = y from Hy.out.symm] at cy
      rw [← Hy.out] at hy
      have hnext : Hid (endUp p.L (lF l) (k+1) = max s (x + y)) := by rw [Hx.out, Hy.out, Hs.out]; exact Lib.hid rfl
      have hw : IntKind.i64.wrap (x + y) = x + y := IntWalk.i64_in _ (by omega)
      skip
      go_wp2_with fail
      by_cases hmx : x + y ≤ s
      · go_quiet (fail)
        go_wp2_with fail
        go_roundg (l.length - (k+1))
        case rel => exact ⟨k+1, by omega, rfl, by go_num, by rw [hnext.out, Int.max_eq_left hmx], ext_trans hb (ext_drewN3 _ _)⟩
        case measure => have := Hk.out; omega
      · go_quiet (fail)
        go_wp2_with fail
        go_roundg (l.length - (k+1))
        case rel => exact ⟨k+1, by omega, rfl, by go_num, by rw [hnext.out, Int.max_eq_right (by omega)], ext_trans hb (ext_drewN3 _ _)⟩
        case measure => have := Hk.out; omega
    · have hkn : k = l.length := by omega
      subst hkn
      go_wp2_with fail
      go_ret
      exact ⟨by rw [Hf.out, Hs.out, Hln.out]; rfl, ext_trans E hb⟩
end Go.Proofs.Ytdfcjhcnojgkiaa
