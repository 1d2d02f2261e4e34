/- The walk of EndedBy of spec. Conditions: the bounds and the happenings can be read, at most two million. -/
import Derived.Test.YtffcfambgcaikaaBadS
namespace Go.Proofs.Ytffcfambgcaikaa
open Go.RowKit
set_option linter.unusedVariables false
set_option linter.unusedSimpArgs false
def RetEnd (w : World) (o : Option (List Hp)) : Ending → World → Prop := fun e w' => ∃ v, e = .returned (.tuple #[v, .bool o.isSome]) ∧ Hps w' w.heap.size v (o.getD []) ∧ Below w.heap.size w w'
theorem step_len {p : Pl} {l : List Hp} : ∀ {k : Nat} {o : List Hp}, p.stepN l k = some o → o.length = l.length + k
  | 0, o, h => by
    have e : l = o := by simpa [Pl.stepN] using h
    subst e; rfl
  | k+1, o, h => by
    cases hk : p.stepN l k with
    | none => rw [step_none hk 1] at h; cases h
    | some o' =>
      have ih := step_len hk
      rw [step_some hk] at h
      split at h
      · have e : o' ++ [p.next o'] = o := by simpa using h
        subst e
        rw [List.length_append, List.length_singleton]; omega
      · cases h
theorem step_first {p : Pl} {l o : List Hp} {j : Nat} (h : p.stepN l j = some o) : j = 0 ∧ o = l ∨ p.nextOk l = true := by
  cases j with
  | zero => exact .inl ⟨rfl, by simpa [Pl.stepN] using h.symm⟩
  | succ j =>
    refine .inr ?_
    cases hn : p.nextOk l
    · exfalso
      have h1 : p.stepN l 1 = none := by rw [step_some (k := 0) rfl, hn]; rfl
      have := step_none h1 j
      rw [Nat.add_comm 1 j] at this
      rw [this] at h; cases h
    · rfl
theorem ended_stop {p : Pl} {l o : List Hp} {j : Nat} (h : p.stepN l j = some o) (hn : l.length + j + 1 < p.n) (hk : p.nextOk o = false) : p.ended l = none := by
  unfold Pl.ended
  split
  · have h1 : p.stepN l (j+1) = none := by rw [step_some h, hk]; rfl
    have := step_none h1 (p.n - 1 - l.length - (j + 1))
    rw [show j + 1 + (p.n - 1 - l.length - (j + 1)) = p.n - 1 - l.length by omega] at this
    exact this
  · rfl
theorem ended_end {p : Pl} {l o : List Hp} {j : Nat} (hd : p.heard l = true) (h : p.stepN l j = some o) (hn : l.length + j + 1 = p.n) :
    (p.verdict o (lastT o) = 0 → p.ended l = some o) ∧ (p.verdict o (lastT o) ≠ 0 → p.ended l = none) := by
  have hj : p.n - 1 - l.length = j := by omega
  have hl := step_len h
  unfold Pl.ended
  rw [hj, h]
  cases hg : p.goes (lastT l) (doneL p.n l)
  · rw [Bool.and_false]
    refine ⟨fun hv => ?_, fun _ => rfl⟩
    exfalso
    obtain ⟨⟨a1, a2, a3⟩, a4, a5⟩ := verdict_in.2.2.1.1 hv
    rcases step_first h with ⟨-, rfl⟩ | hn1
    · rw [hg] at a4; cases a4
    · rw [(next_in hn1).2.1] at hg; cases hg
  · rw [hd]
    refine ⟨fun _ => rfl, fun hv => ?_⟩
    exfalso
    obtain ⟨a, b, c, d, e⟩ := step_good hd hg j o h
    exact hv (verdict_in.2.2.1.2 ⟨⟨a, Int.le_refl _, (last_in a).2⟩, b, by omega⟩)
theorem ended_no1 {p : Pl} {l : List Hp} (h : p.heard l = false) : p.ended l = none := by unfold Pl.ended; rw [h]; rfl
theorem ended_no2 {p : Pl} {l : List Hp} (h : p.goes (lastT l) (doneL p.n l) = false) : p.ended l = none := by unfold Pl.ended; rw [h, Bool.and_false]; rfl
set_option maxRecDepth 100000 in
set_option maxHeartbeats 8000000 in
theorem spec_EndedBy (p : Pl) (bs lv : Value) (l : List Hp) (w : World) (hv : Bds w 0 bs p.bs) (hh : Hps w 0 lv l) (hlen : l.length ≤ 2000000) :
    Calls Try.prog 19 #[.agg #[.int .i64 p.pts, bs], lv] w (RetEnd w (p.ended l)) := by
  have V := Lib.hid hv
  have H := Lib.hid hh
  obtain ⟨a, c, rfl, hn, hc, -⟩ := hv.open
  obtain ⟨al, cl, rfl, hnl, hcl, -⟩ := hh.open
  obtain ⟨N, hN⟩ : ∃ N, Hid (N = l.length) := ⟨_, rfl⟩
  rw [← hN.out] at hnl hlen ⊢
  clear hv hh
  go_enter Try.func19, Try.ntmps19
  go_wp2_with fail
  obtain ⟨W, hW, A0, hs, E⟩ := one_box w #[.int .i64 p.pts, .slice a p.bs.length c] 25
  rw [← hW.out]
  obtain ⟨rc0, rz0⟩ := (A0).rules; have rl0 := (A0).lt
  go_wp2_with fail
  refine (spec_HeardOk p _ _ l _ (V.out.ext E) (show Hps _ 0 (.slice al N cl) l by rw [hN.out]; exact H.out.ext E) (by rw [← hN.out]; exact hlen)).mono ?_
  rintro e w1 ⟨rfl, hb1⟩
  clear rc0 rz0 rl0
  have A0 := A0.ext hb1
  have E := ext_trans E hb1
  clear hb1
  have none_ : Hid (p.ended l = none → ∀ wx, Below w.heap.size w wx → ∀ g, w.heap.size ≤ g → Box wx g 30 #[] → RetEnd w (p.ended l) (.returned (.tuple #[.slice (some ⟨g, 0, none⟩) 0 0, .bool false])) wx) := Lib.hid fun h wx hx g hg hb => by
    rw [h]; exact ⟨_, rfl, Hps.ofBox hb hg, hx⟩
  have hq1 := E.size
  cases hd : p.heard l
  · have Hf := ended_no1 hd
    clear hd
    go_wp2_with fail
    obtain ⟨w2, hw2, T0, hs2, E2⟩ := one_box w1 #[] 30
    rw [← hw2.out]
    go_ret2
    exact none_.out Hf _ (ext_trans E E2) _ hq1 T0
  have Hd := Lib.hid hd
  obtain ⟨q1, q2, q3, -, -⟩ := plok_in (fits_ok (heard_iff.1 hd).1).1
  have hl6 := (heard_len hd).1
  obtain ⟨n, hnn⟩ : ∃ n, Hid (n = p.n) := ⟨_, rfl⟩
  have HPt : Hid (p.pts = (n : Int)) := by rw [hnn.out]; exact Lib.hid q1
  rw [← hnn.out] at q2 q3 hl6
  rw [← hN.out] at hl6
  rw [HPt.out] at A0
  clear hd q1
  have H1 : Hid (Hps w1 0 (.slice al N cl) l) := by rw [hN.out]; exact Lib.hid (H.out.ext E)
  go_wp2_with (at_builtin; refine wpl_appHp _ rfl (.tmp 15) (.tmp 16) rfl w1.heap.size 0 (.slice (some ⟨w1.heap.size, 0, none⟩) 0 0) [] rfl (Hps.ofBox (Box.new _ _ _) (Nat.le_refl _)) (.slice al N cl) l rfl (H1.out.alloc _) (by rw [← hN.out]; simp; omega) (by simp) ?_; intro v9 w9 hv9 hg9; simp only [List.nil_append] at hv9; obtain ⟨a9, c9, hav9, -⟩ := hv9.open; rw [← hN.out] at hav9; subst hav9)
  have hb9 : Below w1.heap.size w1 w9 := ext_grown (ext_alloc (ext_refl _) _) hg9 (fun q hq => by simp [Value.ownBlock] at hq; omega)
  have O := Lib.hid hv9
  clear hv9 hg9
  go_loopg [6] (n - N) (fun m vo wr => ∃ (j M : Nat) (o : List Hp) (ao : Option Addr) (co : Nat), vo = .slice ao M co ∧ Hid (p.stepN l j = some o) ∧ Hid (o.length = M) ∧ Hid (M = N + j) ∧ M + 1 ≤ n ∧ m = n - M ∧ Hid (Hps wr w1.heap.size (.slice ao M co) o) ∧ Below w1.heap.size w1 wr)
  case atStart => exact ⟨0, N, l, _, _, rfl, Lib.hid rfl, Lib.hid hN.out.symm, Lib.hid rfl, hl6, rfl, O, hb9⟩
  case round =>
    clear O hb9
    obtain ⟨j, M, o, ao, co, rfl, Hst, HM, hMj, hMn, hgk, O, hb⟩ := hrel
    have Hk := Lib.hid hgk
    clear hgk
    have A1 := A0.ext hb
    have Ew := ext_trans E hb
    have hbs := hb.size
    obtain ⟨rc0, rz0⟩ := (A1).rules; have rl0 := (A1).lt
    have hwrap : IntKind.i64.wrap ((n : Int) - 1) = (n : Int) - 1 := IntWalk.i64_in _ (by omega)
    by_cases hlt : M + 1 < n
    · have hlti : (M : Int) < (n : Int) - 1 := by omega
      go_wp2_with fail
      refine ((show Calls Try.prog 12 #[.agg #[.int .i64 n, .slice a p.bs.length c], .slice ao M co] wr (fun e w' => e = .returned (.tuple #[(p.next o).val, .bool (p.nextOk o)]) ∧ Below wr.heap.size wr w') by rw [← HPt.out]; exact spec_NextOf p _ _ o _ (V.out.ext Ew) (O.out.base (Nat.zero_le _)) (by rw [HM.out]; omega))).mono ?_
      rintro e w3 ⟨rfl, hb3⟩
      obtain ⟨h, hh⟩ : ∃ h, Hid (h = p.next o) := ⟨_, rfl⟩
      rw [← hh.out]
      unfold Hp.val
      clear rc0 rz0 rl0
      have hb := ext_trans hb hb3
      have O := Lib.hid (O.out.ext hb3)
      go_upto_region 6 with fail
      obtain ⟨w4, hw4, B0, hs4, E4⟩ := one_box w3 #[.int .i64 h.pt, .int .i64 h.tm] 30
      rw [← hw4.out]
      have hb := ext_trans hb E4
      have O := Lib.hid (O.out.ext E4)
      have Ew := ext_trans E hb
      obtain ⟨rc0, rz0⟩ := (B0).rules; have rl0 := (B0).lt
      cases hk : p.nextOk o
      · have Hf := ended_stop Hst.out (by rw [← hnn.out, ← hN.out]; have := hMj.out; omega) hk
        clear hk
        go_wp2_with fail
        obtain ⟨w5, hw5, T0, hs5, E5⟩ := one_box w4 #[] 30
        rw [← hw5.out]
        go_ret2
        exact none_.out Hf _ (ext_trans Ew E5) _ (by have := Ew.size; omega) T0
      · have hst2 : Hid (p.stepN l (j+1) = some (o ++ [h])) := by rw [step_some Hst.out, if_pos hk, hh.out]; exact Lib.hid rfl
        have hM2 : Hid ((o ++ [h]).length = M + 1) := by rw [List.length_append, HM.out]; exact Lib.hid rfl
        clear hk
        go_wp2_with (at_builtin; refine wpl_appHp _ rfl (.tmp 33) (.tmp 35) rfl w1.heap.size 0 (.slice ao M co) o rfl (O.out.alloc _) (.slice (some ⟨w4.heap.size, 0, none⟩) 1 1) [h] rfl ((Hps.lit w4 h).base (Nat.zero_le _)) (by rw [HM.out]; simp; omega) (by have := hb.size; simp; omega) ?_; intro v9 w9 hv9 hg9; obtain ⟨a9, c9, hav9, -⟩ := hv9.open; rw [hM2.out] at hav9; subst hav9)
        go_roundg (n - (M+1))
        case rel => exact ⟨j+1, M+1, o ++ [h], a9, c9, rfl, hst2, hM2, Lib.hid (by have := hMj.out; omega), by omega, rfl, Lib.hid hv9, ext_grown (ext_alloc hb _) hg9 (fun q hq => (O.out.lt q hq).1)⟩
        case measure => have := Hk.out; omega
    · have hMn2 : Hid (M + 1 = n) := Lib.hid (by omega)
      have hlti : ¬ (M : Int) < (n : Int) - 1 := by omega
      have hend := ended_end Hd.out Hst.out (by rw [← hN.out, ← hnn.out]; have := hMj.out; have := hMn2.out; omega)
      have Hend := Lib.hid hend
      clear hend
      obtain ⟨y, hy⟩ : ∃ x, Hid (x = lastT o) := ⟨_, rfl⟩
      go_upto_if 39 with fail
      go_cut [9] (fun v5 wx => v5 = .int .i64 y ∧ wx = wr)
      case first =>
        by_cases hN0 : 0 < M
        · have hN0i : (0 : Int) < (M : Int) := by omega
          obtain ⟨g, ha, hg, -, cy⟩ := O.out.atA (j := M - 1) (by rw [HM.out]; omega)
          subst ha
          rw [← HM.out, ← last_at o (by rw [HM.out]; exact hN0), ← hy.out, HM.out] at cy
          have hk1 : (M : Int) - 1 = ((M - 1 : Nat) : Int) := by omega
          have hk1N : M - 1 < M := by omega
          have hk1i : 0 ≤ (M : Int) - 1 := by omega
          have hk1M : (M : Int) - 1 < (M : Int) := by omega
          have hk1n : ((M : Int) - 1).toNat = M - 1 := by omega
          go_wp2_with fail
          go_meet
          exact ⟨rfl, rfl⟩
        · have hN0i : ¬ (0 : Int) < (M : Int) := by omega
          have hy0 : y = 0 := by rw [hy.out]; exact last_zero o (by rw [HM.out]; omega)
          go_wp2_with fail
          go_meet
          exact ⟨by rw [hy0], rfl⟩
      rename World => wt
      obtain ⟨rfl, rfl⟩ := hcut
      go_wp2_with fail
      refine ((show Calls Try.prog 45 #[.agg #[.int .i64 n, .slice a p.bs.length c], .slice ao M co, .int .i64 y] wt (fun e w' => e = .returned (.int .i64 (p.verdict o y)) ∧ Below wt.heap.size wt w') by rw [← HPt.out]; exact spec_VerdictOf p _ _ o y _ (V.out.ext Ew) (O.out.base (Nat.zero_le _)) (by rw [HM.out]; omega))).mono ?_
      rintro e w3 ⟨rfl, hb3⟩
      obtain ⟨v, hv⟩ : ∃ v, Hid (v = p.verdict o y) := ⟨_, rfl⟩
      rw [← hv.out]
      have Hv : Hid (v = p.verdict o (lastT o)) := by rw [hv.out, hy.out]; exact Lib.hid rfl
      have Ew := ext_trans Ew hb3
      have O := Lib.hid (O.out.ext hb3)
      by_cases hv0 : v = 0
      · have hvb : (v != 0) = false := by simp [hv0]
        have Hf := Lib.hid (Hend.out.1 (Hv.out.symm.trans hv0))
        have HV0 := Lib.hid hv0
        clear hv0
        go_wp2_with fail
        go_ret2
        refine ⟨.slice ao M co, by rw [Hf.out]; rfl, by rw [Hf.out]; exact O.out.base hq1, Ew⟩
      · have hvb : (v != 0) = true := by simp [hv0]
        have Hf := Hend.out.2 (fun h => hv0 (Hv.out.trans h))
        have HV0 := Lib.hid hv0
        clear hv0
        go_wp2_with fail
        obtain ⟨w5, hw5, T0, hs5, E5⟩ := one_box w3 #[] 30
        rw [← hw5.out]
        go_ret2
        exact none_.out Hf _ (ext_trans Ew E5) _ (by have := Ew.size; omega) T0
end Go.Proofs.Ytffcfambgcaikaa
