/- The walks of spec's BeginsOk and IdleOf. No condition but that the numbers can be read. -/
import Derived.Test.YtdfcjhcnojgkiaaHandsS
namespace Go.Proofs.Ytdfcjhcnojgkiaa
open Go.RowKit
set_option linter.unusedVariables false
set_option linter.unusedSimpArgs false
set_option maxRecDepth 100000 in
set_option maxHeartbeats 8000000 in
theorem spec_BeginsOk (p : Pj) (v1 v2 v3 : Value) (h : Int) (l : List Int) (w : World) (h1 : Ints w 0 v1 p.lo) (h2 : Ints w 0 v2 p.af) (h3 : Ints w 0 v3 l) :
    Calls Try.prog 10 #[.agg #[v1, v2], .int .i64 h, v3] w fun e w' => e = .returned (.bool (p.beginsOk h l)) ∧ Below w.heap.size w w' := by
  have H1 := Lib.hid h1; have H2 := Lib.hid h2; have H3 := Lib.hid h3
  obtain ⟨a1, c1, rfl, hn1, hc1, -⟩ := h1.open
  obtain ⟨a2, c2, rfl, hn2, hc2, -⟩ := h2.open
  obtain ⟨a3, c3, rfl, hn3, hc3, -⟩ := h3.open
  clear h1 h2 h3
  go_enter Try.func10, Try.ntmps10
  go_wp2_with fail
  obtain ⟨W, hW, A0, hs, E⟩ := one_box w #[.slice a1 p.lo.length c1, .slice a2 p.af.length c2] 27
  rw [← hW.out]
  refine (spec_BusyAt p _ _ _ l 0 _ (H1.out.ext E) (H2.out.ext E) (H3.out.ext E)).mono ?_
  rintro e w1 ⟨rfl, hb1⟩
  have A0 := A0.ext hb1
  have E := ext_trans E hb1
  have hz := busyAt_zero p l
  obtain ⟨z, Hz⟩ : ∃ z, Hid (z = p.busyAt l 0) := ⟨_, rfl⟩
  rw [← Hz.out] at hz ⊢
  cases hf : p.fit l
  · have hz1 := hz.2 hf
    have hz2 : z < 0 := by omega
    have Hf : Hid (p.beginsOk h l = false) := by simp [Pj.beginsOk, hf]; exact Lib.hid trivial
    clear hf hz hz1
    go_wp2_with fail
    go_ret
    exact ⟨by rw [Hf.out]; rfl, E⟩
  have hz2 : 0 ≤ z := hz.1 hf
  have HF := Lib.hid hf
  obtain ⟨hok, hln, hlr⟩ := fit_in hf
  obtain ⟨hl6, haf, hLs, hAs⟩ := ok_upto hok
  have Hlr := Lib.hid hlr; have HLs := Lib.hid hLs; have HAs := Lib.hid hAs; have Hln := Lib.hid hln; have Haf := Lib.hid haf
  clear hf hz hok hlr hLs hAs hln haf
  go_wp2_with fail
  refine (spec_l1In _ _ _ _).mono ?_
  rintro e w2 ⟨rfl, rfl⟩
  cases hh : inB h 1 3
  · have Hf : Hid (p.beginsOk h l = false) := by simp [Pj.beginsOk, hh]; exact Lib.hid trivial
    clear hh
    go_wp2_with fail
    go_ret
    exact ⟨by rw [Hf.out]; rfl, E⟩
  have Hh := Lib.hid ((inB_iff _ _ _).1 hh)
  clear hh
  obtain ⟨n, hn⟩ : ∃ n, Hid (n = p.lo.length) := ⟨_, rfl⟩
  have hl1 : Hid (l.length = n) := by rw [hn.out]; exact Hln
  have hf1 : Hid (p.af.length = n) := by rw [hn.out]; exact Haf
  have H1 : Hid (Ints w1 0 (.slice a1 n c1) p.lo) := by rw [hn.out]; exact Lib.hid (H1.out.ext E)
  have H2 : Hid (Ints w1 0 (.slice a2 n c2) p.af) := by rw [← hf1.out]; exact Lib.hid (H2.out.ext E)
  have H3 : Hid (Ints w1 0 (.slice a3 n c3) l) := by rw [← hl1.out]; exact Lib.hid (H3.out.ext E)
  rw [← hn.out, hf1.out] at A0
  rw [← hn.out] at hl6
  rw [hl1.out] at hn3 ⊢
  rw [← hn.out, hf1.out]
  clear hn1 hn2
  have hbusy : Hid (∀ t wx, (0 ≤ t ∧ t ≤ 2000) → Below w1.heap.size w1 wx → Calls Try.prog 26 #[.agg #[.slice a1 n c1, .slice a2 n c2], .slice a3 n c3, .int .i64 t] wx fun e w' => e = .returned (.int .i64 (busyTo (lF l) p.L t n)) ∧ Below wx.heap.size wx w') := by
    intro t wx ht hb
    refine (spec_BusyAt p _ _ _ l t wx (H1.out.ext hb) (H2.out.ext hb) (H3.out.ext hb)).mono ?_
    rintro e w' ⟨rfl, hb'⟩
    refine ⟨?_, hb'⟩
    rw [show p.busyAt l t = busyTo (lF l) p.L t p.lo.length from if_pos (by rw [HF.out, (inB_iff _ _ _).2 ht]; rfl), hn.out]
  go_wp2_with fail
  go_loopg [7] n (fun m ii wr => ∃ i : Nat, i ≤ n ∧ m = n - i ∧ ii = .int .i64 i ∧ Below w1.heap.size w1 wr ∧ Hid (∀ c, c < i → p.beginOk h l c = true))
  case atStart => exact ⟨0, by omega, by omega, rfl, ext_refl _, fun c hc => by omega⟩
  case round =>
    obtain ⟨i, hi, hgk, rfl, hb, Hall⟩ := hrel
    have Hi := Lib.hid hgk
    clear hgk
    by_cases hli : i < n
    · have hil : i < l.length := by rw [hl1.out]; exact hli
      have hio : i < p.lo.length := by rw [← hn.out]; exact hli
      have hia : i < p.af.length := by rw [hf1.out]; exact hli
      obtain ⟨g3, ha3, _, hg3, _, _⟩ := (H3.out.ext hb).at_ hil
      subst ha3
      obtain ⟨g2, ha2, _, hg2, _, _⟩ := (H2.out.ext hb).at_ hia
      subst ha2
      have hx := Hlr.out i hil
      have hA := HAs.out i hio
      obtain ⟨x, Hx⟩ : ∃ x, Hid (x = lF l i) := ⟨_, rfl⟩
      obtain ⟨b, Hb⟩ : ∃ b, Hid (b = p.A i) := ⟨_, rfl⟩
      rw [show l.getD i 0 = x from Hx.out.symm] at hx
      rw [← Hb.out] at hA
      have hb0 : 0 ≤ b ∧ b ≤ 64 := by
        have key : ∀ m : Fin 7, (2 : Int) ^ m.val ≤ 64 := by decide
        have := key ⟨i, by omega⟩
        dsimp only at this
        omega
      clear hA
      go_wp2_with fail
      rename World => wr
      go_loopg [8] i (fun m kk wx => ∃ k : Nat, k ≤ i ∧ m = i - k ∧ kk = .int .i64 k ∧ Below wr.heap.size wr wx ∧ Hid (∀ c, c < k → bit (p.A i) c = true → lF l c + p.L c ≤ x))
      case atStart => exact ⟨0, by omega, by omega, rfl, ext_refl _, fun c hc => by omega⟩
      case round =>
        rename World => wx
        obtain ⟨k, hk, hgk, rfl, hbx, Hin⟩ := hrel
        have Hk := Lib.hid hgk
        clear hgk
        have hbw := ext_trans hb hbx
        have A1 := A0.ext hbw
        have hg3w : g3 < wx.heap.size := by have := hbx.size; omega
        have hg2w : g2 < wx.heap.size := by have := hbx.size; omega
        by_cases hlk : k < i
        · have hkl : k < l.length := by rw [hl1.out]; omega
          have hko : k < p.lo.length := by rw [← hn.out]; omega
          have hkn : k < n := by omega
          have cx : wx.cell? ⟨g3, i, none⟩ = some (.int .i64 x) := by rw [(H3.out.ext hbw).cellJ hil, Hx.out]; rfl
          have cu : wx.cell? ⟨g3, k, none⟩ = some (.int .i64 (l.getD k 0)) := (H3.out.ext hbw).cellJ hkl
          have cb : wx.cell? ⟨g2, i, none⟩ = some (.int .i64 b) := by rw [(H2.out.ext hbw).cellJ hia, Hb.out]; rfl
          obtain ⟨g1, ha1, _, hg1, _, cy⟩ := (H1.out.ext hbw).at_ hko
          subst ha1
          obtain ⟨u, Hu⟩ : ∃ u, Hid (u = lF l k) := ⟨_, rfl⟩
          obtain ⟨y, Hy⟩ : ∃ y, Hid (y = p.L k) := ⟨_, rfl⟩
          have hu := Hlr.out k hkl
          have hy := HLs.out k hko
          rw [show l.getD k 0 = u from Hu.out.symm] at cu hu
          rw [show p.lo.getD k 0 = y from Hy.out.symm] at cy
          rw [← Hy.out] at hy
          have hd := div_pow_le b k hb0.1 (by omega)
          have hw : IntKind.i64.wrap (u + y) = u + y := IntWalk.i64_in _ (by omega)
          have hbk : Hid (bit (p.A i) k = bit b k) := by rw [Hb.out]; exact Lib.hid rfl
          obtain ⟨rc1, rz1⟩ := (A1).rules; have rl1 := (A1).lt
          cases hbit : bit b k
          · have he : (b / 2 ^ k % 2 == 1) = false := hbit
            have Hbit := Lib.hid hbit
            clear hbit
            go_wp2_with fail
            go_quiet (fail)
            go_wp2_with fail
            go_roundg (i - (k+1))
            case rel =>
              refine ⟨k+1, by omega, rfl, by go_num, ext_trans hbx (ext_drewN3 _ _), Lib.hid fun c hc hbc => ?_⟩
              by_cases hck : c = k
              · subst hck; rw [hbk.out, Hbit.out] at hbc; cases hbc
              · exact Hin.out c (by omega) hbc
            case measure => have := Hk.out; omega
          · have he : (b / 2 ^ k % 2 == 1) = true := hbit
            have Hbit := Lib.hid hbit
            clear hbit
            by_cases hxu : x < u + y
            · have hd1 : decide (x < u + y) = true := decide_eq_true hxu
              go_wp2_with fail
              go_quiet (fail)
              go_wp2_with fail
              go_ret
              refine ⟨?_, ext_trans E (ext_trans hbw (ext_drewN3 _ _))⟩
              rw [begins_not hio (after_not hlk (by rw [hbk.out]; exact Hbit.out) (by rw [← Hu.out, ← Hx.out, ← Hy.out]; exact hxu))]
              rfl
            · have hd1 : decide (x < u + y) = false := decide_eq_false hxu
              go_wp2_with fail
              go_quiet (fail)
              go_wp2_with fail
              go_roundg (i - (k+1))
              case rel =>
                refine ⟨k+1, by omega, rfl, by go_num, ext_trans hbx (ext_drewN3 _ _), Lib.hid fun c hc hbc => ?_⟩
                by_cases hck : c = k
                · subst hck; rw [← Hu.out, ← Hy.out]; omega
                · exact Hin.out c (by omega) hbc
              case measure => have := Hk.out; omega
        · have hki : i = k := by omega
          subst hki
          have haok : Hid (p.afterOk l i = true) := by refine Lib.hid (after_iff.2 fun c hc hbc => ?_); rw [← Hx.out]; exact Hin.out c hc hbc
          have cx : wx.cell? ⟨g3, i, none⟩ = some (.int .i64 x) := by rw [(H3.out.ext hbw).cellJ hil, Hx.out]; rfl
          have hok : Hid (p.beginOk h l i = decide (busyTo (lF l) p.L x n ≤ h)) := by rw [Pj.beginOk, haok.out, Bool.true_and, ← Hx.out, ← hn.out]; exact Lib.hid rfl
          obtain ⟨rc1, rz1⟩ := (A1).rules; have rl1 := (A1).lt
          go_wp2_with fail
          go_region_held3 (fun w' => w'.cell? ⟨w.heap.size, 0, none⟩ = some (.slice a1 n c1) ∧ w'.cell? ⟨w.heap.size, 1, none⟩ = some (.slice (some ⟨g2, 0, none⟩) n c2) ∧ w'.cell? ⟨g3, i, none⟩ = some (.int .i64 x))
            (first | exact ⟨A1.cell0 rfl, A1.cell0 rfl, cx⟩ | exact ⟨A5.cell0 rfl, A5.cell0 rfl, cx5⟩)
            (first | (go_at_call 26
                      refine (hbusy.out x _ hx (ext_trans hbw (ext_drew (ext_refl wx)))).mono ?_
                      rintro e w5 ⟨rfl, hb5⟩
                      have hbz := ext_trans (ext_drew (ext_refl wx)) hb5
                      have A5 := A1.ext hbz
                      have cx5 : w5.cell? ⟨g3, i, none⟩ = some (.int .i64 x) := by rw [(H3.out.ext (ext_trans hbw hbz)).cellJ hil, Hx.out]; rfl
                      obtain ⟨z, Hz⟩ : ∃ z, Hid (z = busyTo (lF l) p.L x n) := ⟨_, rfl⟩
                      rw [← Hz.out] at hok ⊢))
          have hbz := ext_trans hbw hbz
          by_cases hzh : z ≤ h
          · go_wp2_with fail
            go_roundg (n - (i+1))
            case rel =>
              refine ⟨i+1, by omega, rfl, by go_num, hbz, Lib.hid fun c hc => ?_⟩
              by_cases hci : c = i
              · subst hci; rw [hok.out]; exact decide_eq_true hzh
              · exact Hall.out c (by omega)
            case measure => have := Hi.out; omega
          · go_wp2_with fail
            go_ret
            refine ⟨?_, ext_trans E hbz⟩
            rw [begins_not hio (by rw [hok.out]; exact decide_eq_false (by omega))]
            rfl
    · have hin : n = i := by omega
      subst hin
      go_wp2_with fail
      go_ret
      refine ⟨?_, ext_trans E hb⟩
      rw [begins_iff.2 ⟨HF.out, Hh.out, fun c hc => Hall.out c (by rw [hn.out]; exact hc)⟩]
      rfl
set_option maxRecDepth 100000 in
set_option maxHeartbeats 4000000 in
theorem spec_IdleOf (p : Pj) (v1 v2 v3 : Value) (h : Int) (l : List Int) (w : World) (h1 : Ints w 0 v1 p.lo) (h2 : Ints w 0 v2 p.af) (h3 : Ints w 0 v3 l) :
    Calls Try.prog 16 #[.agg #[v1, v2], .int .i64 h, v3] w fun e w' => e = .returned (.int .i64 (p.idleOf h l)) ∧ Below w.heap.size w w' := by
  have H1 := Lib.hid h1; have H2 := Lib.hid h2; have H3 := Lib.hid h3
  obtain ⟨a1, c1, rfl, hn1, hc1, -⟩ := h1.open
  obtain ⟨a2, c2, rfl, hn2, hc2, -⟩ := h2.open
  obtain ⟨a3, c3, rfl, hn3, hc3, -⟩ := h3.open
  clear h1 h2 h3
  go_enter Try.func16, Try.ntmps16
  go_wp2_with fail
  obtain ⟨W, hW, A0, hs, E⟩ := one_box w #[.slice a1 p.lo.length c1, .slice a2 p.af.length c2] 27
  rw [← hW.out]
  refine (spec_BeginsOk p _ _ _ h l _ (H1.out.ext E) (H2.out.ext E) (H3.out.ext E)).mono ?_
  rintro e w1 ⟨rfl, hb1⟩
  have A0 := A0.ext hb1
  have E := ext_trans E hb1
  obtain ⟨rc0, rz0⟩ := (A0).rules; have rl0 := (A0).lt
  cases hf : p.beginsOk h l
  · have Hf : Hid (p.idleOf h l = -1) := if_neg (by simp [hf])
    clear hf
    go_wp2_with fail
    go_ret
    exact ⟨by rw [Hf.out]; rfl, E⟩
  have Hf : Hid (p.idleOf h l = h * endUp p.L (lF l) p.lo.length - sumUp p.L p.lo.length) := if_pos hf
  obtain ⟨hfit, hh, -⟩ := begins_iff.1 hf
  have hend : Hid (p.endOf l = endUp p.L (lF l) p.lo.length) := if_pos hfit
  obtain ⟨hok, hln, hlr⟩ := fit_in hfit
  obtain ⟨hl6, haf, hLs, hAs⟩ := ok_upto hok
  have HLs := Lib.hid hLs
  have hen := end_bd (L := p.L) (e := lF l) p.lo.length fun j hj => by have := hLs j hj; have := hlr j (by omega); show l.getD j 0 + _ ≤ _; omega
  clear hf hfit hok hln hlr haf hLs hAs
  go_wp2_with fail
  refine (spec_EndOf p _ _ _ l _ (H1.out.ext E) (H2.out.ext E) (H3.out.ext E)).mono ?_
  rintro e w2 ⟨rfl, hb2⟩
  have A0 := A0.ext hb2
  have E := ext_trans E hb2
  clear rc0 rz0 rl0 hb2
  obtain ⟨rc0, rz0⟩ := (A0).rules; have rl0 := (A0).lt
  rw [hend.out]
  obtain ⟨x, Hx⟩ : ∃ x, Hid (x = endUp p.L (lF l) p.lo.length) := ⟨_, rfl⟩
  rw [← Hx.out] at hen Hf ⊢
  have hm := mul_small hh.1 hh.2 hen.1 hen.2
  have hmw : IntKind.i64.wrap (h * x) = h * x := IntWalk.i64_in _ (by omega)
  have hmw2 : wrap64 (h * x) = h * x := IntWalk.wrap64_in _ (by omega)
  go_wp2_with fail
  try rw [hmw2]
  try rw [hmw]
  obtain ⟨hx, Hhx⟩ : ∃ z, Hid (z = h * x) := ⟨_, rfl⟩
  rw [← Hhx.out] at hm Hf ⊢
  clear hmw hmw2
  go_loopg [7, 8] p.lo.length (fun m s kk wr => ∃ k : Nat, k ≤ p.lo.length ∧ m = p.lo.length - k ∧ kk = .int .i64 k ∧ s = .int .i64 (hx - sumUp p.L k) ∧ wr = w2)
  case atStart => exact ⟨0, by omega, by omega, rfl, by simp [sumUp], rfl⟩
  case round =>
    obtain ⟨k, hk, hgk, rfl, rfl, hwe⟩ := hrel
    subst hwe
    have Hk := Lib.hid hgk
    clear hgk
    have hsm := sum_bd (L := p.L) k (fun j hj => HLs.out j (by omega))
    by_cases hlk : k < p.lo.length
    · obtain ⟨g1, ha1, _, hg1, _, cy⟩ := (H1.out.ext E).at_ hlk
      subst ha1
      have hy := HLs.out k hlk
      have hnext : Hid (hx - sumUp p.L (k+1) = hx - sumUp p.L k - p.L k) := by show Hid (hx - (sumUp p.L k + p.L k) = _); exact Lib.hid (by omega)
      obtain ⟨y, Hy⟩ : ∃ y, Hid (y = p.L k) := ⟨_, rfl⟩
      obtain ⟨s, Hs⟩ : ∃ y, Hid (y = sumUp p.L k) := ⟨_, rfl⟩
      rw [show p.lo.getD k 0 = y from Hy.out.symm] at cy
      rw [← Hy.out] at hy hnext
      rw [← Hs.out] at hsm hnext ⊢
      go_wp2_with fail
      go_roundg (p.lo.length - (k+1))
      case rel => exact ⟨k+1, by omega, rfl, by go_num, by rw [hnext.out], rfl⟩
      case measure => have := Hk.out; omega
    · have hkn : k = p.lo.length := by omega
      subst hkn
      go_wp2_with fail
      go_ret
      exact ⟨by rw [Hf.out]; rfl, E⟩
end Go.Proofs.Ytdfcjhcnojgkiaa
