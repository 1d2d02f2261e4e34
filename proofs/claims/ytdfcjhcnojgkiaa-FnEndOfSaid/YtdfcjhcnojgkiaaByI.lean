/- The walk of BeginsBy of impl. Condition: the numbers can be read. -/
import Derived.Test.YtdfcjhcnojgkiaaBy
namespace Go.Proofs.Ytdfcjhcnojgkiaa
open Go.RowKit
set_option linter.unusedVariables false
set_option linter.unusedSimpArgs false
theorem Begun.smalls {p : Pj} {M : Int} {l : List Int} (hb : Begun p M l) (hM : M ≤ 900000) (hL : ∀ k, k < p.lo.length → 1 ≤ p.L k ∧ p.L k ≤ 20) : Smalls p l := by
  refine ⟨hb.len, fun j hj => ?_⟩
  have e : lF l j = l.getD j 0 := rfl
  have h1 := hb.at_ j (by rw [← hb.len]; exact hj)
  have h2 := hL j (by rw [← hb.len]; exact hj)
  omega
theorem may_iff {p : Pj} {l : List Int} {t : Nat} : p.may l t = true ↔ lF l t = -1 ∧ p.pre l t = true := by
  simp only [Pj.may, Bool.and_eq_true, decide_eq_true_eq]
theorem may_not {p : Pj} {l : List Int} {t : Nat} (h : lF l t ≠ -1 ∨ p.pre l t = false) : p.may l t = false := by
  cases hc : p.may l t
  · rfl
  · have := may_iff.1 hc
    rcases h with h | h
    · exact absurd this.1 h
    · rw [h] at this; cases this.2
theorem by_fit {p : Pj} {h : Int} {o : List Int} (hf : p.ordFit h o = true) : p.beginsBy h o = p.byTo h o p.lo.length := if_pos hf
/-- the first time that is free is the begin -/
theorem time_at {p : Pj} {l : List Int} {h : Int} {t d : Nat} (hp : p.pre l t = true) (hd : d ≤ 200) (hn : ∀ c, c < d → p.free l h t (fromV p l t + c) = false) (hf : p.free l h t (fromV p l t + d) = true) : p.timeOf l h t = fromV p l t + d := by
  have e : fromV p l t = startUp p.L p.A (lF l) t t := if_pos hp
  rw [e] at hn hf ⊢
  exact seek_at d 200 _ hd hn hf
theorem time_more {p : Pj} {l : List Int} {M : Int} (hb : Begun p M l) {h : Int} (hh : 1 ≤ h) {t d : Nat} (hf : p.free l h t (fromV p l t + d) = false) (hM : 20 ≤ M) (hM2 : M ≤ 180) (hL : ∀ k, k < p.lo.length → 1 ≤ p.L k ∧ p.L k ≤ 20) : d < 200 := by
  have h0 := startUp_pos p.L p.A (lF l) t t
  have h1 : 0 ≤ fromV p l t := by unfold fromV; split <;> omega
  by_cases hc : M ≤ fromV p l t + d
  · rw [hb.free hh hc t] at hf; cases hf
  · omega
set_option maxRecDepth 100000 in
set_option maxHeartbeats 8000000 in
theorem impl_BeginsBy (p : Pj) (v1 v2 v3 : Value) (h : Int) (o : List Int) (w : World) (h1 : Ints w 0 v1 p.lo) (h2 : Ints w 0 v2 p.af) (h3 : Ints w 0 v3 o) (hlen : p.lo.length ≤ 4000000) :
    Calls Try.prog 24 #[.agg #[v1, v2], .int .i64 h, v3] w (RetIntsB w (p.beginsBy h o) (p.ordFit h o)) := by
  have H1 := Lib.hid h1; have H2 := Lib.hid h2; have H3 := Lib.hid h3
  obtain ⟨a1, c1, rfl, hn1, hc1, -⟩ := h1.open
  obtain ⟨a2, c2, rfl, hn2, hc2, -⟩ := h2.open
  obtain ⟨a3, c3, rfl, hn3, hc3, -⟩ := h3.open
  clear h1 h2 h3
  go_enter Try.func24, Try.ntmps24
  go_wp2_with fail
  obtain ⟨W, hW, A0, hs, E⟩ := one_box w #[.slice a1 p.lo.length c1, .slice a2 p.af.length c2] 27
  rw [← hW.out]
  refine (impl_orderFits p _ _ _ h o _ (H1.out.ext E) (H2.out.ext E) (H3.out.ext E) hlen).mono ?_
  rintro e w1 ⟨rfl, hb1⟩
  have A0 := A0.ext hb1
  have E := ext_trans E hb1
  obtain ⟨rc0, rz0⟩ := (A0).rules; have rl0 := (A0).lt
  cases hf : p.ordFit h o
  · have Hr : Hid (p.beginsBy h o = []) := Lib.hid (if_neg (by rw [hf]; simp))
    go_wp2_with fail
    go_ret2
    exact ⟨_, by rw [hf]; rfl, by rw [Hr.out]; exact Ints.nil _ _, E⟩
  have Hf := Lib.hid hf
  obtain ⟨hok, hh, ho⟩ := ordFit_in hf
  obtain ⟨hl6, haf, hLs, hAs⟩ := ok_upto hok
  have Hok := Lib.hid hok; have HLs := Lib.hid hLs; have Ho := Lib.hid ho
  have hin := Lib.hid (order_in ho)
  obtain ⟨n, hn⟩ : ∃ n, Hid (n = p.lo.length) := ⟨_, rfl⟩
  have hn3' : Hid (o.length = n) := by rw [hn.out]; exact hin.out.2.1
  clear hf hok haf hLs hAs ho hb1
  go_wp2_with fail
  refine (impl_none p _ _ _ (H1.out.ext E) (H2.out.ext E) hl6).mono ?_
  rintro e w2 ⟨v, rfl, hR, hb⟩
  rw [← hn.out] at hl6 A0 hR ⊢
  rw [hn3'.out] at hn3 ⊢
  obtain ⟨an, cn, rfl, hnn, hcn, -⟩ := hR.open
  rw [List.length_replicate] at hnn hR ⊢
  have q1 := E.size
  have hfrom : Hid (∀ l (t : Nat) wx v3, Below w1.heap.size w1 wx → Ints wx 0 v3 l → Smalls p l → t < n → Calls Try.prog 46 #[.agg #[.slice a1 n c1, .slice a2 p.af.length c2], v3, .int .i64 t] wx fun e w' => e = .returned (.tuple #[.int .i64 (fromV p l t), .bool (p.pre l t)]) ∧ Below wx.heap.size wx w') := by
    intro l t wx v3 hbx hi hs ht
    rw [hn.out] at ht ⊢
    exact impl_from p _ _ v3 l t wx ((H1.out.ext E).ext hbx) ((H2.out.ext E).ext hbx) hi Hok.out hs ht
  have hfreeC : Hid (∀ l (t : Nat) s wx v3, Below w1.heap.size w1 wx → Ints wx 0 v3 l → Smalls p l → t < n → (-1000 ≤ s ∧ s ≤ 1000000) → Calls Try.prog 48 #[.agg #[.slice a1 n c1, .slice a2 p.af.length c2], v3, .int .i64 h, .int .i64 t, .int .i64 s] wx fun e w' => e = .returned (.bool (p.free l h t s)) ∧ Below wx.heap.size wx w') := by
    intro l t s wx v3 hbx hi hs ht hss
    rw [hn.out] at ht ⊢
    exact impl_free p _ _ v3 l h t s wx ((H1.out.ext E).ext hbx) ((H2.out.ext E).ext hbx) hi Hok.out hs ht hss
  have R : Hid (Ints w2 w1.heap.size (.slice an n cn) (p.byTo h o 0)) := by rw [show p.byTo h o 0 = List.replicate n (-1) by rw [hn.out]; rfl]; exact Lib.hid hR
  have hbyl : Hid (∀ i, (p.byTo h o i).length = n) := by rw [hn.out]; exact Lib.hid (fun i => by_len p h o i)
  have hbeg : Hid (∀ i : Nat, i ≤ 8 → Begun p (20 * i + 20) (p.byTo h o i)) := Lib.hid (fun i hi => begun_by Hf.out i hi)
  clear hR rc0 rz0 rl0
  go_wp2_with fail
  go_loopg [22] n (fun m ii wr => ∃ i : Nat, i ≤ n ∧ m = n - i ∧ ii = .int .i64 i ∧ Hid (Ints wr w1.heap.size (.slice an n cn) (p.byTo h o i)) ∧ Below w1.heap.size w1 wr)
  case atStart => exact ⟨0, by omega, by omega, rfl, R, hb⟩
  case round =>
    clear R hb
    obtain ⟨i, hi, hgk, rfl, R, hb⟩ := hrel
    have Hi := Lib.hid hgk
    clear hgk
    by_cases hlt : i < n
    · obtain ⟨L, HL⟩ : ∃ L, Hid (L = p.byTo h o i) := ⟨_, rfl⟩
      have hLl : Hid (L.length = n) := by rw [HL.out]; exact Lib.hid (hbyl.out i)
      have hBg : Hid (Begun p (20 * i + 20) L) := by rw [HL.out]; exact Lib.hid (hbeg.out i (by omega))
      have hsm : Hid (Smalls p L) := Lib.hid (hBg.out.smalls (by omega) HLs.out)
      rw [← HL.out] at R
      go_wp2_with fail
      go_loopg [26] n (fun m kk wx => ∃ k : Nat, k ≤ n ∧ m = n - k ∧ kk = .int .i64 k ∧ Hid (Ints wx w1.heap.size (.slice an n cn) L) ∧ Below w1.heap.size w1 wx ∧ Hid (∀ c, c < k → p.may L (oN o c) = false))
      case atStart => exact ⟨0, by omega, by omega, rfl, R, hb, fun c hc => by omega⟩
      case round =>
        clear R hb
        rename World => wx
        obtain ⟨k, hk, hgk, rfl, R, hb, Hno⟩ := hrel
        have Hk := Lib.hid hgk
        clear hgk
        by_cases hlk : k < n
        · obtain ⟨t, ht⟩ : ∃ t, Hid (t = oN o k) := ⟨_, rfl⟩
          have hko := hin.out.2.2 k (by rw [← hn.out]; exact hlk)
          rw [← ht.out, ← hn.out] at hko
          have htn := hko.2
          have E1 := ext_trans E hb
          obtain ⟨g3, ha3, _, hg3, _, cx⟩ := (H3.out.ext E1).at_ (j := k) (by rw [hn3'.out]; exact hlk)
          subst ha3
          rw [hko.1] at cx
          have A1 := A0.ext hb
          clear hko
          obtain ⟨rc0, rz0⟩ := (A1).rules; have rl0 := (A1).lt
          go_wp2_with fail
          refine (hfrom.out L t _ _ hb (R.out.base (Nat.zero_le _)) hsm.out htn).mono ?_
          rintro e w3 ⟨rfl, hb3⟩
          have hb := ext_trans hb hb3
          have R := Lib.hid (R.out.ext hb3)
          have A2 := A1.ext hb3
          clear rc0 rz0 rl0 hb3 A1 E1 cx hg3
          obtain ⟨gr, har, hgrb, hgr, hfz, cr⟩ := R.out.at_ (j := t) (by rw [hLl.out]; exact htn)
          subst har
          obtain ⟨x, Hx⟩ : ∃ x, Hid (x = lF L t) := ⟨_, rfl⟩
          rw [show L.getD t 0 = x from Hx.out.symm] at cr
          by_cases hx1 : x = -1
          · have hxe : (x != -1) = false := by simp [hx1]
            have Hx1 : Hid (lF L t = -1) := by rw [← Hx.out]; exact hx1
            clear hx1
            cases hpre : p.pre L t
            · have Hm : Hid (p.may L t = false) := Lib.hid (may_not (.inr hpre))
              clear hpre
              go_wp2_with fail
              go_roundg (n - (k+1))
              case rel =>
                refine ⟨k+1, by omega, rfl, by go_num, R, hb, Lib.hid fun c hc => ?_⟩
                by_cases hck : c = k
                · subst hck; rw [← ht.out]; exact Hm.out
                · exact Hno.out c (by omega)
              case measure => have := Hk.out; omega
            · have Hm : Hid (p.may L t = true) := Lib.hid (may_iff.2 ⟨Hx1.out, hpre⟩)
              have Hpre := Lib.hid hpre
              clear hpre
              obtain ⟨low, Hlow⟩ : ∃ low, Hid (low = fromV p L t) := ⟨_, rfl⟩
              rw [← Hlow.out]
              have hlow : 0 ≤ low ∧ low ≤ 900020 := by
                rw [Hlow.out, show fromV p L t = startUp p.L p.A (lF L) t t from if_pos Hpre.out]
                exact startUp_small hsm.out HLs.out t t (by rw [← hn.out]; omega)
              go_wp2_with fail
              go_loopg [11] 300 (fun m ss wy => ∃ d : Nat, d ≤ 200 ∧ m = 300 - d ∧ ss = .int .i64 (low + d) ∧ Hid (Ints wy w1.heap.size (.slice (some ⟨gr, 0, none⟩) n cn) L) ∧ Below w1.heap.size w1 wy ∧ Hid (∀ c : Nat, c < d → p.free L h t (low + c) = false))
              case atStart => exact ⟨0, by omega, by omega, by simp, R, hb, fun c hc => by omega⟩
              case round =>
                clear R hb A2 hgrb hgr hfz cr
                rename World => wy
                obtain ⟨d, hd, hgk, rfl, R, hb, Hnf⟩ := hrel
                have Hd := Lib.hid hgk
                clear hgk
                have A2 := A0.ext hb
                obtain ⟨rc0, rz0⟩ := (A2).rules; have rl0 := (A2).lt
                go_wp2_with fail
                refine (hfreeC.out L t (low + d) _ _ hb (R.out.base (Nat.zero_le _)) hsm.out htn (by omega)).mono ?_
                rintro e w4 ⟨rfl, hb4⟩
                have hb := ext_trans hb hb4
                have R := Lib.hid (R.out.ext hb4)
                clear rc0 rz0 rl0 hb4 A2
                cases hfr : p.free L h t (low + d)
                · have hd2 : d < 200 := time_more hBg.out hh.1 (by rw [← Hlow.out]; exact hfr) (by omega) (by omega) HLs.out
                  have Hfr := Lib.hid hfr
                  clear hfr
                  have hw2 : IntKind.i64.wrap (low + (d : Int) + 1) = low + ((d+1 : Nat) : Int) := by rw [IntWalk.i64_in _ (by omega)]; omega
                  go_wp2_with fail
                  go_roundg (300 - (d+1))
                  case rel =>
                    refine ⟨d+1, by omega, rfl, by simp, R, hb, Lib.hid fun c hc => ?_⟩
                    by_cases hcd : c = d
                    · subst hcd; exact Hfr.out
                    · exact Hnf.out c (by omega)
                  case measure => have := Hd.out; omega
                · have hT : Hid (p.timeOf L h t = low + d) := by
                    rw [Hlow.out]
                    exact Lib.hid (time_at Hpre.out hd (by rw [← Hlow.out]; exact Hnf.out) (by rw [← Hlow.out]; exact hfr))
                  clear hfr
                  obtain ⟨_, hae, hgrb, hgr, hfz, cr⟩ := R.out.at_ (j := t) (by rw [hLl.out]; exact htn)
                  cases hae
                  have R := Lib.hid (R.out.set t (low + d))
                  have hstep : Hid (p.byTo h o (i+1) = L.set t (low + d)) := by
                    show p.step h o (p.byTo h o i) = _
                    rw [← HL.out, step_at (i := k) (by rw [hn3'.out]; exact hlk) (by rw [← ht.out]; exact Hm.out) Hno.out, ← ht.out, hT.out]
                  go_wp2_with fail
                  go_roundg (n - (i+1))
                  case rel => exact ⟨i+1, by omega, rfl, by go_num, by rw [hstep.out]; exact R, ext_set hb (by dsimp only; omega) _⟩
                  case measure => have := Hi.out; omega
          · have hxe : (x != -1) = true := by simp [hx1]
            have Hm : Hid (p.may L t = false) := Lib.hid (may_not (.inl (by rw [← Hx.out]; exact hx1)))
            clear hx1
            go_wp2_with fail
            go_roundg (n - (k+1))
            case rel =>
              refine ⟨k+1, by omega, rfl, by go_num, R, hb, Lib.hid fun c hc => ?_⟩
              by_cases hck : c = k
              · subst hck; rw [← ht.out]; exact Hm.out
              · exact Hno.out c (by omega)
            case measure => have := Hk.out; omega
        · have hkn : k = n := by omega
          have hstep : Hid (p.byTo h o (i+1) = L) := by
            show p.step h o (p.byTo h o i) = _
            rw [← HL.out]
            exact step_none (fun c hc => Hno.out c (by rw [hkn, ← hn3'.out]; exact hc))
          clear hkn
          go_wp2_with fail
          go_roundg (n - (i+1))
          case rel => exact ⟨i+1, by omega, rfl, by go_num, by rw [hstep.out]; exact R, hb⟩
          case measure => have := Hi.out; omega
    · have hin2 : i = n := by omega
      have hend : Hid (p.beginsBy h o = p.byTo h o i) := by rw [by_fit Hf.out, hin2, hn.out]; exact Lib.hid rfl
      clear hin2
      go_wp2_with fail
      go_ret2
      exact ⟨_, by rw [Hf.out]; rfl, by rw [hend.out]; exact R.out.base (by omega), ext_trans E hb⟩
end Go.Proofs.Ytdfcjhcnojgkiaa
