/- The walks of l10Begins and BeginsBy of spec. Conditions: the numbers can be read; of l10Begins: project, hands and order are right. -/
import Derived.Test.YtdfcjhcnojgkiaaByT
namespace Go.Proofs.Ytdfcjhcnojgkiaa
open Go.RowKit
set_option linter.unusedVariables false
set_option linter.unusedSimpArgs false
/-- whether a task may begin, by the first j of those before it -/
def mayTo (p : Pj) (l : List Int) (t j : Nat) : Bool := decide (lF l t = -1) && (List.range j).all (fun k => !(bit (p.A t) k) || decide (lF l k ≠ -1))
theorem mayTo_next (p : Pj) (l : List Int) (t j : Nat) : mayTo p l t (j+1) = (mayTo p l t j && (!(bit (p.A t) j) || decide (lF l j ≠ -1))) := by
  simp [mayTo, List.range_succ, List.all_append, Bool.and_assoc]
theorem mayTo_all (p : Pj) (l : List Int) (t : Nat) : mayTo p l t t = p.may l t := rfl
set_option maxRecDepth 100000 in
set_option maxHeartbeats 16000000 in
theorem spec_l10Begins (p : Pj) (v1 v2 v3 : Value) (h : Int) (o : List Int) (w : World) (h1 : Ints w 0 v1 p.lo) (h2 : Ints w 0 v2 p.af) (h3 : Ints w 0 v3 o) (hf : p.ordFit h o = true) :
    Calls Try.prog 47 #[.agg #[v1, v2], .int .i64 h, v3] w (RetInts w (p.beginsBy h o)) := by
  have H1 := Lib.hid h1; have H2 := Lib.hid h2; have H3 := Lib.hid h3
  obtain ⟨a1, c1, rfl, hn1, hc1, -⟩ := h1.open
  obtain ⟨a2, c2, rfl, hn2, hc2, -⟩ := h2.open
  obtain ⟨a3, c3, rfl, hn3, hc3, -⟩ := h3.open
  clear h1 h2 h3
  have Hf := Lib.hid hf
  obtain ⟨hok, hh, ho⟩ := ordFit_in hf
  obtain ⟨hl6, haf, hLs, hAs⟩ := ok_upto hok
  have Hok := Lib.hid hok; have HLs := Lib.hid hLs; have Ho := Lib.hid ho; have HAs := Lib.hid hAs
  have hin := Lib.hid (order_in ho)
  obtain ⟨n, hn⟩ : ∃ n, Hid (n = p.lo.length) := ⟨_, rfl⟩
  have hn3' : Hid (o.length = n) := by rw [hn.out]; exact hin.out.2.1
  have hf2 : Hid (p.af.length = n) := by rw [hn.out]; exact haf
  rw [← hn.out] at hl6 hn1 ⊢
  rw [hn3'.out] at hn3 ⊢
  clear hf hok haf hLs ho hAs
  go_enter Try.func47, Try.ntmps47
  go_upto_region 1 with fail
  obtain ⟨w1, hw1, A0, hs1, E⟩ := one_box w #[.slice a1 n c1, .slice a2 p.af.length c2] 27
  rw [← hw1.out]
  have q1 := E.size
  go_upto_region 2 with fail
  obtain ⟨W2, hW2, T0, hs2, hb⟩ := one_box w1 #[] 3
  rw [← hW2.out]
  have O : Hid (Ints W2 w1.heap.size (.slice (some ⟨w1.heap.size, 0, none⟩) 0 0) (List.replicate 0 (-1))) := Lib.hid (Ints.ofBox T0 (Nat.le_refl _))
  have hsm0 := Lib.hid (fun (l : List Int) (hs : Smalls p l) (t : Nat) => startUp_small hs HLs.out t)
  have hfreeC : Hid (∀ l (t : Nat) s wx v3, Below w1.heap.size w1 wx → Ints wx 0 v3 l → Smalls p l → t < n → (-1000 ≤ s ∧ s ≤ 1000000) → Calls Try.prog 59 #[.agg #[.slice a1 n c1, .slice a2 p.af.length c2], .int .i64 h, v3, .int .i64 t, .int .i64 s] wx fun e w' => e = .returned (.bool (p.free l h t s)) ∧ Below wx.heap.size wx w') := by
    intro l t s wx v3 hbx hi hs ht hss
    rw [hn.out] at ht ⊢
    exact spec_l10Free p _ _ v3 l h t s wx ((H1.out.ext E).ext hbx) ((H2.out.ext E).ext hbx) hi Hok.out hs ht hss
  clear T0
  go_wp2_with fail
  go_loopg [7, 8] n (fun m vo kk wr => ∃ k : Nat, k ≤ n ∧ m = n - k ∧ kk = .int .i64 k ∧ Hid (Ints wr w1.heap.size vo (List.replicate k (-1))) ∧ Below w1.heap.size w1 wr)
  case atStart => exact ⟨0, by omega, by omega, rfl, O, hb⟩
  case round =>
    clear O hb
    obtain ⟨k, hk, hgk, rfl, O, hb⟩ := hrel
    have Hk := Lib.hid hgk
    clear hgk
    obtain ⟨ao, co, rfl, hco, -⟩ := O.out.open
    rw [List.length_replicate] at O hco ⊢
    by_cases hlk : k < n
    · go_wp2_with (at_builtin; refine wpl_appI _ rfl (.tmp 22) (.tmp 23) rfl w1.heap.size 0 (.slice ao k co) (List.replicate k (-1)) rfl (O.out.alloc _) (.slice (some ⟨wr.heap.size, 0, none⟩) 1 1) [-1] rfl ((Ints.lit wr (-1)).base (Nat.zero_le _)) (by simp; omega) (by have := hb.size; simp; omega) ?_; intro v9 w9 hv9 hg9)
      have hb := ext_grown (ext_alloc hb _) hg9 (fun q hq => (O.out.lt q hq).1)
      have O : Hid (Ints w9 w1.heap.size v9 (List.replicate (k+1) (-1))) := by rw [List.replicate_succ']; exact Lib.hid hv9
      clear hv9 hg9
      go_roundg (n - (k+1))
      case rel => exact ⟨k+1, by omega, rfl, by go_num, O, hb⟩
      case measure => have := Hk.out; omega
    · have hkn : k = n := by omega
      subst hkn
      rename World => w2
      go_wp2_with fail
      have R : Hid (Ints w2 w1.heap.size (.slice ao k co) (p.byTo h o 0)) := by rw [show p.byTo h o 0 = List.replicate k (-1) by rw [hn.out]; rfl]; exact O
      have hbyl : Hid (∀ i, (p.byTo h o i).length = k) := by rw [hn.out]; exact Lib.hid (fun i => by_len p h o i)
      have hbeg : Hid (∀ i : Nat, i ≤ 8 → Begun p (20 * i + 20) (p.byTo h o i)) := Lib.hid (fun i hi => begun_by Hf.out i hi)
      clear O hk Hk
      obtain ⟨N, hN⟩ : ∃ N, N = k := ⟨_, rfl⟩
      subst hN
      go_loopg [9] N (fun m ii wr => ∃ i : Nat, i ≤ N ∧ m = N - i ∧ ii = .int .i64 i ∧ Hid (Ints wr w1.heap.size (.slice ao N co) (p.byTo h o i)) ∧ Below w1.heap.size w1 wr)
      case atStart => exact ⟨0, by omega, by omega, rfl, R, hb⟩
      case round =>
        clear R hb
        rename World => wr
        obtain ⟨i, hi, hgk, rfl, R, hb⟩ := hrel
        have Hi := Lib.hid hgk
        clear hgk
        by_cases hlt : i < N
        · obtain ⟨L, HL⟩ : ∃ L, Hid (L = p.byTo h o i) := ⟨_, rfl⟩
          have hLl : Hid (L.length = N) := by rw [HL.out]; exact Lib.hid (hbyl.out i)
          have hBg : Hid (Begun p (20 * i + 20) L) := by rw [HL.out]; exact Lib.hid (hbeg.out i (by omega))
          have hsm : Hid (Smalls p L) := Lib.hid (hBg.out.smalls (by omega) HLs.out)
          rw [← HL.out] at R
          go_wp2_with fail
          go_loopg [10] N (fun m kk wx => ∃ k : Nat, k ≤ N ∧ m = N - k ∧ kk = .int .i64 k ∧ Hid (Ints wx w1.heap.size (.slice ao N co) L) ∧ Below w1.heap.size w1 wx ∧ Hid (∀ c, c < k → p.may L (oN o c) = false))
          case atStart => exact ⟨0, by omega, by omega, rfl, R, hb, fun c hc => by omega⟩
          case round =>
            clear R hb
            rename World => wx
            obtain ⟨k, hk, hgk, rfl, R, hb, Hno⟩ := hrel
            have Hk := Lib.hid hgk
            clear hgk
            by_cases hlk : k < N
            · obtain ⟨t, ht⟩ : ∃ t, Hid (t = oN o k) := ⟨_, rfl⟩
              have hko := hin.out.2.2 k (by rw [← hn.out]; exact hlk)
              rw [← ht.out, ← hn.out] at hko
              have htn := hko.2
              have E1 := ext_trans E hb
              obtain ⟨g3, ha3, _, hg3, _, cx⟩ := (H3.out.ext E1).at_ (j := k) (by rw [hn3'.out]; exact hlk)
              subst ha3
              rw [hko.1] at cx
              clear hko
              obtain ⟨gr, har, hgrb, hgr, hfz, cr⟩ := R.out.at_ (j := t) (by rw [hLl.out]; exact htn)
              subst har
              obtain ⟨x, Hx⟩ : ∃ x, Hid (x = lF L t) := ⟨_, rfl⟩
              rw [show L.getD t 0 = x from Hx.out.symm] at cr
              have hxs := hsm.out.2 t (by rw [hLl.out]; exact htn)
              rw [show L.getD t 0 = x from Hx.out.symm] at hxs
              have hA := Pj.A_in (p := p) (by rw [← hn.out]; exact hl6) HAs.out (t := t) (by rw [← hn.out]; exact htn)
              obtain ⟨b, Hb⟩ : ∃ b, Hid (b = p.A t) := ⟨_, rfl⟩
              rw [← Hb.out] at hA
              go_wp2_with fail
              go_loopg [12, 13, 14] t (fun m ss mm jj wy => ∃ j : Nat, j ≤ t ∧ m = t - j ∧ jj = .int .i64 j ∧ ss = .int .i64 (startUp p.L p.A (lF L) t j) ∧ mm = .bool (mayTo p L t j) ∧ Hid (Ints wy w1.heap.size (.slice (some ⟨gr, 0, none⟩) N co) L) ∧ Below w1.heap.size w1 wy)
              case atStart =>
                refine ⟨0, by omega, by omega, rfl, rfl, ?_, R, hb⟩
                rw [show mayTo p L t 0 = decide (x < 0) from by
                  unfold mayTo
                  rw [← Hx.out]
                  by_cases h0 : x = -1
                  · rw [decide_eq_true h0, decide_eq_true (by omega)]; rfl
                  · rw [decide_eq_false h0, decide_eq_false (by omega)]; rfl]
              case round =>
                clear R hb hgrb hgr hfz cr cx hg3 E1
                rename World => wy
                obtain ⟨j, hj, hgk, rfl, rfl, rfl, R, hb⟩ := hrel
                have Hj := Lib.hid hgk
                clear hgk
                have E1 := ext_trans E hb
                have A1 := A0.ext hb
                have hsb := hsm0.out L hsm.out t j (by rw [← hn.out]; omega)
                obtain ⟨s, Hs1⟩ : ∃ s, Hid (s = startUp p.L p.A (lF L) t j) := ⟨_, rfl⟩
                obtain ⟨my, Hmy⟩ : ∃ my, Hid (my = mayTo p L t j) := ⟨_, rfl⟩
                rw [← Hs1.out] at hsb ⊢
                rw [← Hmy.out]
                by_cases hlj : j < t
                · have hjo : j < p.lo.length := by rw [← hn.out]; omega
                  have hjl : j < L.length := by rw [hLl.out]; omega
                  have hta : t < p.af.length := by rw [hf2.out]; exact htn
                  obtain ⟨g2, ha2, _, hg2, _, cb⟩ := (H2.out.ext E1).at_ hta
                  obtain ⟨g1, ha1, _, hg1, _, cy⟩ := (H1.out.ext E1).at_ hjo
                  obtain ⟨_, hae, _, hgr, hfz, cu⟩ := R.out.at_ hjl
                  cases hae
                  subst ha1
                  subst ha2
                  rw [show p.af.getD t 0 = b from Hb.out.symm] at cb
                  obtain ⟨u, Hu⟩ : ∃ u, Hid (u = lF L j) := ⟨_, rfl⟩
                  obtain ⟨y, Hy⟩ : ∃ y, Hid (y = p.L j) := ⟨_, rfl⟩
                  have hu := hsm.out.2 j hjl
                  have hy := HLs.out j hjo
                  rw [show L.getD j 0 = u from Hu.out.symm] at cu hu
                  rw [show p.lo.getD j 0 = y from Hy.out.symm] at cy
                  rw [← Hy.out] at hy
                  have hw : IntKind.i64.wrap (u + y) = u + y := IntWalk.i64_in _ (by omega)
                  have hd := div_pow_le b j hA.1 (by omega)
                  have hsn : Hid (startUp p.L p.A (lF L) t (j+1) = if bit b j then max s (u + y) else s) := by rw [Hu.out, Hy.out, Hs1.out, Hb.out]; exact Lib.hid rfl
                  have hmn : Hid (mayTo p L t (j+1) = (my && (!(bit b j) || decide (u ≠ -1)))) := by rw [mayTo_next, Hmy.out, Hu.out, Hb.out]; exact Lib.hid rfl
                  clear hjo hjl
                  obtain ⟨rc0, rz0⟩ := (A1).rules; have rl0 := (A1).lt
                  cases hbit : bit b j
                  · have he : (b / 2 ^ j % 2 == 1) = false := hbit
                    have hsn2 : Hid (startUp p.L p.A (lF L) t (j+1) = s) := by rw [hsn.out, hbit]; exact Lib.hid rfl
                    have hmn2 : Hid (mayTo p L t (j+1) = my) := by rw [hmn.out, hbit]; simp; exact Lib.hid trivial
                    clear hbit
                    go_wp2_with fail
                    go_roundg (t - (j+1))
                    case rel => exact ⟨j+1, by omega, rfl, by go_num, by rw [hsn2.out], by rw [hmn2.out], R, hb⟩
                    case measure => have := Hj.out; omega
                  · have he : (b / 2 ^ j % 2 == 1) = true := hbit
                    have hmn2 : Hid (mayTo p L t (j+1) = (my && decide (u ≥ 0))) := by
                      rw [hmn.out, hbit]
                      by_cases hu0 : u = -1
                      · rw [decide_eq_false (show ¬ (u ≥ 0) by omega), decide_eq_false (fun hne => hne hu0)]; exact Lib.hid rfl
                      · rw [decide_eq_true (show u ≥ 0 by omega), decide_eq_true hu0]; exact Lib.hid rfl
                    cases hm : my
                    · have hmn3 : Hid (mayTo p L t (j+1) = false) := by rw [hmn2.out, hm]; exact Lib.hid rfl
                      go_wp2_with fail
                      by_cases hmx : u + y ≤ s
                      · have hsn2 : Hid (startUp p.L p.A (lF L) t (j+1) = s) := by rw [hsn.out, hbit, if_pos rfl, Int.max_eq_left hmx]; exact Lib.hid rfl
                        clear hbit
                        go_quiet (fail)
                        go_wp2_with fail
                        go_roundg (t - (j+1))
                        case rel => exact ⟨j+1, by omega, rfl, by go_num, by rw [hsn2.out], by rw [hmn3.out], Lib.hid (R.out.ext (ext_drewN3 _ _)), ext_trans hb (ext_drewN3 _ _)⟩
                        case measure => have := Hj.out; omega
                      · have hsn2 : Hid (startUp p.L p.A (lF L) t (j+1) = u + y) := by rw [hsn.out, hbit, if_pos rfl, Int.max_eq_right (by omega)]; exact Lib.hid rfl
                        clear hbit
                        go_quiet (fail)
                        go_wp2_with fail
                        go_roundg (t - (j+1))
                        case rel => exact ⟨j+1, by omega, rfl, by go_num, by rw [hsn2.out], by rw [hmn3.out], Lib.hid (R.out.ext (ext_drewN3 _ _)), ext_trans hb (ext_drewN3 _ _)⟩
                        case measure => have := Hj.out; omega
                    · have hmn3 : Hid (mayTo p L t (j+1) = decide (u ≥ 0)) := by rw [hmn2.out, hm, Bool.true_and]; exact Lib.hid rfl
                      go_wp2_with fail
                      by_cases hmx : u + y ≤ s
                      · have hsn2 : Hid (startUp p.L p.A (lF L) t (j+1) = s) := by rw [hsn.out, hbit, if_pos rfl, Int.max_eq_left hmx]; exact Lib.hid rfl
                        clear hbit
                        go_quiet (fail)
                        go_wp2_with fail
                        go_roundg (t - (j+1))
                        case rel => exact ⟨j+1, by omega, rfl, by go_num, by rw [hsn2.out], by rw [hmn3.out], Lib.hid (R.out.ext (ext_drewN3 _ _)), ext_trans hb (ext_drewN3 _ _)⟩
                        case measure => have := Hj.out; omega
                      · have hsn2 : Hid (startUp p.L p.A (lF L) t (j+1) = u + y) := by rw [hsn.out, hbit, if_pos rfl, Int.max_eq_right (by omega)]; exact Lib.hid rfl
                        clear hbit
                        go_quiet (fail)
                        go_wp2_with fail
                        go_roundg (t - (j+1))
                        case rel => exact ⟨j+1, by omega, rfl, by go_num, by rw [hsn2.out], by rw [hmn3.out], Lib.hid (R.out.ext (ext_drewN3 _ _)), ext_trans hb (ext_drewN3 _ _)⟩
                        case measure => have := Hj.out; omega
                · have hjt : j = t := by omega
                  have hmE : Hid (my = p.may L t) := by rw [Hmy.out, hjt]; exact Lib.hid (mayTo_all p L t)
                  have hsE : Hid (s = startUp p.L p.A (lF L) t t) := by rw [Hs1.out, hjt]; exact Lib.hid rfl
                  clear hjt Hs1 Hmy
                  cases hm : my
                  · have Hm : Hid (p.may L t = false) := by rw [← hmE.out]; exact hm
                    clear hm
                    go_wp2_with fail
                    go_roundg (N - (k+1))
                    case rel =>
                      refine ⟨k+1, by omega, rfl, by go_num, R, hb, Lib.hid fun c hc => ?_⟩
                      by_cases hck : c = k
                      · subst hck; rw [← ht.out]; exact Hm.out
                      · exact Hno.out c (by omega)
                    case measure => have := Hk.out; omega
                  · have Hm : Hid (p.may L t = true) := by rw [← hmE.out]; exact hm
                    have Hpre := Lib.hid (may_iff.1 Hm.out).2
                    have Hlow : Hid (s = fromV p L t) := by rw [hsE.out]; exact Lib.hid (show startUp p.L p.A (lF L) t t = fromV p L t from (if_pos Hpre.out).symm)
                    clear hm hmE hsE
                    go_wp2_with fail
                    go_loopg [12] 300 (fun m ss wz => ∃ d : Nat, d ≤ 200 ∧ m = 300 - d ∧ ss = .int .i64 (s + d) ∧ Hid (Ints wz w1.heap.size (.slice (some ⟨gr, 0, none⟩) N co) L) ∧ Below w1.heap.size w1 wz ∧ Hid (∀ c : Nat, c < d → p.free L h t (s + c) = false))
                    case atStart => exact ⟨0, by omega, by omega, by simp, R, hb, fun c hc => by omega⟩
                    case round =>
                      clear R hb A1 E1
                      rename World => wz
                      obtain ⟨d, hd, hgk, rfl, R, hb, Hnf⟩ := hrel
                      have Hd := Lib.hid hgk
                      clear hgk
                      have A2 := A0.ext hb
                      obtain ⟨rc0, rz0⟩ := (A2).rules; have rl0 := (A2).lt
                      go_wp2_with fail
                      refine (hfreeC.out L t (s + d) _ _ hb (R.out.base (Nat.zero_le _)) hsm.out htn (by omega)).mono ?_
                      rintro e w4 ⟨rfl, hb4⟩
                      have hb := ext_trans hb hb4
                      have R := Lib.hid (R.out.ext hb4)
                      clear rc0 rz0 rl0 hb4 A2
                      cases hfr : p.free L h t (s + d)
                      · have hd2 : d < 200 := time_more hBg.out hh.1 (by rw [← Hlow.out]; exact hfr) (by omega) (by omega) HLs.out
                        have Hfr := Lib.hid hfr
                        clear hfr
                        have hw2 : IntKind.i64.wrap (s + (d : Int) + 1) = s + ((d+1 : Nat) : Int) := by rw [IntWalk.i64_in _ (by omega)]; omega
                        go_wp2_with fail
                        go_roundg (300 - (d+1))
                        case rel =>
                          refine ⟨d+1, by omega, rfl, by simp, R, hb, Lib.hid fun c hc => ?_⟩
                          by_cases hcd : c = d
                          · subst hcd; exact Hfr.out
                          · exact Hnf.out c (by omega)
                        case measure => have := Hd.out; omega
                      · have hT : Hid (p.timeOf L h t = s + d) := by
                          rw [Hlow.out]
                          exact Lib.hid (time_at Hpre.out hd (by rw [← Hlow.out]; exact Hnf.out) (by rw [← Hlow.out]; exact hfr))
                        clear hfr
                        obtain ⟨_, hae, hgrb, hgr, hfz, cr⟩ := R.out.at_ (j := t) (by rw [hLl.out]; exact htn)
                        cases hae
                        have R := Lib.hid (R.out.set t (s + d))
                        have hstep : Hid (p.byTo h o (i+1) = L.set t (s + d)) := by
                          show p.step h o (p.byTo h o i) = _
                          rw [← HL.out, step_at (i := k) (by rw [hn3'.out]; exact hlk) (by rw [← ht.out]; exact Hm.out) Hno.out, ← ht.out, hT.out]
                        go_wp2_with fail
                        go_roundg (N - (i+1))
                        case rel => exact ⟨i+1, by omega, rfl, by go_num, by rw [hstep.out]; exact R, ext_set hb (by dsimp only; omega) _⟩
                        case measure => have := Hi.out; omega
            · have hkn : k = N := by omega
              have hstep : Hid (p.byTo h o (i+1) = L) := by
                show p.step h o (p.byTo h o i) = _
                rw [← HL.out]
                exact step_none (fun c hc => Hno.out c (by rw [hkn, ← hn3'.out]; exact hc))
              clear hkn
              go_wp2_with fail
              go_roundg (N - (i+1))
              case rel => exact ⟨i+1, by omega, rfl, by go_num, by rw [hstep.out]; exact R, hb⟩
              case measure => have := Hi.out; omega
        · have hin2 : i = N := by omega
          have hend : Hid (p.beginsBy h o = p.byTo h o i) := by rw [by_fit Hf.out, hin2, hn.out]; exact Lib.hid rfl
          clear hin2
          go_wp2_with fail
          go_ret
          exact ⟨_, rfl, by rw [hend.out]; exact R.out.base (by omega), ext_trans E hb⟩
set_option maxRecDepth 100000 in
set_option maxHeartbeats 4000000 in
theorem spec_BeginsBy (p : Pj) (v1 v2 v3 : Value) (h : Int) (o : List Int) (w : World) (h1 : Ints w 0 v1 p.lo) (h2 : Ints w 0 v2 p.af) (h3 : Ints w 0 v3 o) (hlen : p.lo.length ≤ 4000000) :
    Calls Try.prog 23 #[.agg #[v1, v2], .int .i64 h, v3] w (RetIntsB w (p.beginsBy h o) (p.ordFit h o)) := by
  have H1 := Lib.hid h1; have H2 := Lib.hid h2; have H3 := Lib.hid h3
  obtain ⟨a1, c1, rfl, hn1, hc1, -⟩ := h1.open
  obtain ⟨a2, c2, rfl, hn2, hc2, -⟩ := h2.open
  obtain ⟨a3, c3, rfl, hn3, hc3, -⟩ := h3.open
  clear h1 h2 h3
  go_enter Try.func23, Try.ntmps23
  go_wp2_with fail
  obtain ⟨W, hW, A0, hs, E⟩ := one_box w #[.slice a1 p.lo.length c1, .slice a2 p.af.length c2] 27
  rw [← hW.out]
  refine (spec_ProjectOk p _ _ _ (H1.out.ext E) (H2.out.ext E)).mono ?_
  rintro e w1 ⟨rfl, hb1⟩
  have A0 := A0.ext hb1
  have E := ext_trans E hb1
  obtain ⟨rc0, rz0⟩ := (A0).rules; have rl0 := (A0).lt
  cases hok : p.ok
  · have hf : Hid (p.ordFit h o = false) := by simp [Pj.ordFit, hok]; exact Lib.hid trivial
    have Hr : Hid (p.beginsBy h o = []) := Lib.hid (if_neg (by rw [hf.out]; simp))
    clear hok
    go_upto_region 3 with fail
    obtain ⟨w9, hw9, T9, hs9, hb9⟩ := one_box _ #[] 3
    rw [← hw9.out]
    go_wp2_with fail
    go_ret2
    exact ⟨_, by rw [hf.out]; rfl, by rw [Hr.out]; exact Ints.ofBox T9 E.size, ext_trans E hb9⟩
  have Hok := Lib.hid hok
  clear hok
  go_wp2_with fail
  refine (spec_l1In _ _ _ _).mono ?_
  rintro e w2 ⟨rfl, rfl⟩
  cases hh : inB h 1 3
  · have hf : Hid (p.ordFit h o = false) := by simp [Pj.ordFit, hh]; exact Lib.hid trivial
    have Hr : Hid (p.beginsBy h o = []) := Lib.hid (if_neg (by rw [hf.out]; simp))
    clear hh
    go_upto_region 3 with fail
    obtain ⟨w9, hw9, T9, hs9, hb9⟩ := one_box _ #[] 3
    rw [← hw9.out]
    go_wp2_with fail
    go_ret2
    exact ⟨_, by rw [hf.out]; rfl, by rw [Hr.out]; exact Ints.ofBox T9 E.size, ext_trans E hb9⟩
  have hfo : Hid (p.ordFit h o = orderOk o p.lo.length) := by simp [Pj.ordFit, hh, Hok.out]; exact Lib.hid trivial
  clear hh
  go_wp2_with fail
  refine (spec_OrderOk _ o p.lo.length _ (H3.out.ext E) hlen).mono ?_
  rintro e w3 ⟨rfl, hb3⟩
  have A0 := A0.ext hb3
  have E := ext_trans E hb3
  clear rc0 rz0 rl0
  cases hoo : orderOk o p.lo.length
  · have hf : Hid (p.ordFit h o = false) := by rw [hfo.out]; exact hoo
    have Hr : Hid (p.beginsBy h o = []) := Lib.hid (if_neg (by rw [hf.out]; simp))
    clear hoo
    go_upto_region 3 with fail
    obtain ⟨w9, hw9, T9, hs9, hb9⟩ := one_box _ #[] 3
    rw [← hw9.out]
    go_wp2_with fail
    go_ret2
    exact ⟨_, by rw [hf.out]; rfl, by rw [Hr.out]; exact Ints.ofBox T9 E.size, ext_trans E hb9⟩
  have hf : Hid (p.ordFit h o = true) := by rw [hfo.out]; exact hoo
  clear hoo
  obtain ⟨rc0, rz0⟩ := (A0).rules; have rl0 := (A0).lt
  go_wp2_with fail
  refine (spec_l10Begins p _ _ _ h o _ (H1.out.ext E) (H2.out.ext E) (H3.out.ext E) hf.out).mono ?_
  rintro e w4 ⟨v, rfl, hv, hb4⟩
  obtain ⟨av, cv, rfl, -⟩ := hv.open
  go_wp2_with fail
  go_ret2
  exact ⟨_, by rw [hf.out]; rfl, hv.base E.size, ext_trans E hb4⟩
end Go.Proofs.Ytdfcjhcnojgkiaa
