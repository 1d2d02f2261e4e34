/- The walk of EndedBy of impl. Conditions: the bounds and the happenings can be read, at most two million. -/
import Derived.Test.YtffcfambgcaikaaWaitI
namespace Go.Proofs.Ytffcfambgcaikaa
open Go.RowKit
set_option linter.unusedVariables false
set_option linter.unusedSimpArgs false
theorem ended_is {p : Pl} {l o : List Hp} {j : Nat} (hd : p.heard l = true) (hg : p.goes (lastT l) (doneL p.n l) = true) (h : p.stepN l j = some o) (hn : l.length + j + 1 = p.n) : p.ended l = some o := by
  unfold Pl.ended
  rw [show p.n - 1 - l.length = j by omega, h, hd, hg]; rfl
set_option maxRecDepth 100000 in
set_option maxHeartbeats 8000000 in
theorem impl_EndedBy (p : Pl) (bs lv : Value) (l : List Hp) (w : World) (hv : Bds w 0 bs p.bs) (hh : Hps w 0 lv l) (hlen : l.length ≤ 2000000) :
    Calls Try.prog 18 #[.agg #[.int .i64 p.pts, bs], lv] w (RetEnd w (p.ended l)) := by
  have V := Lib.hid hv
  have H := Lib.hid hh
  obtain ⟨a, c, rfl, hn, hc, -⟩ := hv.open
  obtain ⟨al, cl, rfl, hnl, hcl, -⟩ := hh.open
  obtain ⟨N, hN⟩ : ∃ N, Hid (N = l.length) := ⟨_, rfl⟩
  rw [← hN.out] at hnl hlen ⊢
  clear hv hh
  go_enter Try.func18, Try.ntmps18
  go_wp2_with fail
  obtain ⟨W, hW, A0, hs, E⟩ := one_box w #[.int .i64 p.pts, .slice a p.bs.length c] 25
  rw [← hW.out]
  have Hl : Hid (∀ wx, Below w.heap.size w wx → Hps wx 0 (.slice al N cl) l) := Lib.hid fun wx hx => by rw [hN.out]; exact H.out.ext hx
  obtain ⟨rc0, rz0⟩ := (A0).rules; have rl0 := (A0).lt
  go_wp2_with fail
  refine (impl_HeardOk p _ _ l _ (V.out.ext E) (Hl.out _ E) (by rw [← hN.out]; exact hlen)).mono ?_
  rintro e w1 ⟨rfl, hb1⟩
  clear rc0 rz0 rl0
  have A0 := A0.ext hb1
  have E := ext_trans E hb1
  clear hb1
  have none_ : Hid (p.ended l = none → ∀ wx, Below w.heap.size w wx → RetEnd w (p.ended l) (.returned (.tuple #[.slice none 0 0, .bool false])) wx) := Lib.hid fun h wx hx => by
    rw [h]; exact ⟨_, rfl, Hps.nil _ _, hx⟩
  obtain ⟨rc0, rz0⟩ := (A0).rules; have rl0 := (A0).lt
  cases hd : p.heard l
  · have Hf := ended_no1 hd
    clear hd
    go_wp2_with fail
    go_ret2
    exact none_.out Hf _ E
  have Hd := Lib.hid hd
  obtain ⟨q1, q2, q3, -, -⟩ := plok_in (fits_ok (heard_iff.1 hd).1).1
  have hl6 := (heard_len hd).1
  obtain ⟨n, hnn⟩ : ∃ n, Hid (n = p.n) := ⟨_, rfl⟩
  have HPt : Hid (p.pts = (n : Int)) := by rw [hnn.out]; exact Lib.hid q1
  rw [← hnn.out] at q2 q3 hl6
  rw [← hN.out] at hl6
  clear hd q1
  go_wp2_with fail
  refine (impl_broken p _ _ l _ (V.out.ext E) (Hl.out _ E) (by rw [← hN.out]; exact hlen)).mono ?_
  rintro e w2 ⟨rfl, hb2⟩
  clear rc0 rz0 rl0
  have A0 := A0.ext hb2
  have E := ext_trans E hb2
  clear hb2
  have hvl := last_le Hd.out (lastT l) (Int.le_refl _) (last_in Hd.out).2
  cases hg : p.goes (lastT l) (doneL p.n l)
  · rw [show decide (p.verdict l (lastT l) = 2) = true from decide_eq_true (hvl.2 hg)]
    have Hf := ended_no2 hg
    clear hg hvl
    go_wp2_with fail
    go_ret2
    exact none_.out Hf _ E
  rw [show decide (p.verdict l (lastT l) = 2) = false from decide_eq_false (fun h => by rw [hvl.1 h] at hg; cases hg)]
  have Hg := Lib.hid hg
  clear hg hvl
  rw [HPt.out] at A0
  have H1 : Hid (Hps w2 0 (.slice al N cl) l) := Lib.hid (Hl.out _ E)
  have hq1 := E.size
  go_wp2_with (at_builtin; refine wpl_appHp _ rfl (.const (.slice none 0 0)) (.tmp 18) rfl w2.heap.size 0 (.slice none 0 0) [] rfl (Hps.nil _ _) (.slice al N cl) l rfl H1.out (by rw [← hN.out]; simp; omega) (by simp) ?_; intro v9 w9 hv9 hg9; simp only [List.nil_append] at hv9; obtain ⟨a9, c9, hav9, -⟩ := hv9.open; rw [← hN.out] at hav9; subst hav9)
  have hb9 : Below w2.heap.size w2 w9 := ext_grown (ext_refl _) hg9 (fun q hq => by cases hq)
  have O := Lib.hid hv9
  clear hv9 hg9
  go_loopg [6] (n - N) (fun m vo wr => ∃ (j M : Nat) (o : List Hp) (ao : Option Addr) (co : Nat), vo = .slice ao M co ∧ Hid (p.stepN l j = some o) ∧ Hid (o.length = M) ∧ Hid (M = N + j) ∧ M + 1 ≤ n ∧ m = n - M ∧ Hid (Hps wr w2.heap.size (.slice ao M co) o) ∧ Below w2.heap.size w2 wr)
  case atStart => exact ⟨0, N, l, _, _, rfl, Lib.hid rfl, Lib.hid hN.out.symm, Lib.hid rfl, hl6, rfl, O, hb9⟩
  case round =>
    clear O hb9
    obtain ⟨j, M, o, ao, co, rfl, Hst, HM, hMj, hMn, hgk, O, hb⟩ := hrel
    have Hk := Lib.hid hgk
    clear hgk
    have A1 := A0.ext hb
    have Ew := ext_trans E hb
    have hbs := hb.size
    obtain ⟨rc0, rz0⟩ := (A1).rules; have rl0 := (A1).lt
    have hwrap : IntKind.i64.wrap ((n : Int) - 1) = (n : Int) - 1 := IntWalk.i64_in _ (by omega)
    by_cases hlt : M + 1 < n
    · have hlti : (M : Int) < (n : Int) - 1 := by omega
      go_wp2_with fail
      refine ((show Calls Try.prog 11 #[.agg #[.int .i64 n, .slice a p.bs.length c], .slice ao M co] wr (fun e w' => e = .returned (.tuple #[(p.next o).val, .bool (p.nextOk o)]) ∧ Below wr.heap.size wr w') by rw [← HPt.out]; exact impl_NextOf p _ _ o _ (V.out.ext Ew) (O.out.base (Nat.zero_le _)) (by rw [HM.out]; omega))).mono ?_
      rintro e w3 ⟨rfl, hb3⟩
      obtain ⟨h, hh⟩ : ∃ h, Hid (h = p.next o) := ⟨_, rfl⟩
      rw [← hh.out]
      unfold Hp.val
      clear rc0 rz0 rl0
      have hb := ext_trans hb hb3
      have O := Lib.hid (O.out.ext hb3)
      go_upto_region 6 with fail
      obtain ⟨w4, hw4, B0, hs4, E4⟩ := one_box w3 #[.int .i64 h.pt, .int .i64 h.tm] 30
      rw [← hw4.out]
      have hb := ext_trans hb E4
      have O := Lib.hid (O.out.ext E4)
      have Ew := ext_trans E hb
      obtain ⟨rc0, rz0⟩ := (B0).rules; have rl0 := (B0).lt
      cases hk : p.nextOk o
      · have Hf := ended_stop Hst.out (by rw [← hnn.out, ← hN.out]; have := hMj.out; omega) hk
        clear hk
        go_wp2_with fail
        go_ret2
        exact none_.out Hf _ Ew
      · have hst2 : Hid (p.stepN l (j+1) = some (o ++ [h])) := by rw [step_some Hst.out, if_pos hk, hh.out]; exact Lib.hid rfl
        have hM2 : Hid ((o ++ [h]).length = M + 1) := by rw [List.length_append, HM.out]; exact Lib.hid rfl
        clear hk
        go_wp2_with (at_builtin; refine wpl_appHp _ rfl (.tmp 34) (.tmp 36) rfl w2.heap.size 0 (.slice ao M co) o rfl (O.out.alloc _) (.slice (some ⟨w4.heap.size, 0, none⟩) 1 1) [h] rfl ((Hps.lit w4 h).base (Nat.zero_le _)) (by rw [HM.out]; simp; omega) (by have := hb.size; simp; omega) ?_; intro v9 w9 hv9 hg9; obtain ⟨a9, c9, hav9, -⟩ := hv9.open; rw [hM2.out] at hav9; subst hav9)
        go_roundg (n - (M+1))
        case rel => exact ⟨j+1, M+1, o ++ [h], a9, c9, rfl, hst2, hM2, Lib.hid (by have := hMj.out; omega), by omega, rfl, Lib.hid hv9, ext_grown (ext_alloc hb _) hg9 (fun q hq => (O.out.lt q hq).1)⟩
        case measure => have := Hk.out; omega
    · have hMn2 : Hid (M + 1 = n) := Lib.hid (by omega)
      have hlti : ¬ (M : Int) < (n : Int) - 1 := by omega
      have Hf := Lib.hid (ended_is Hd.out Hg.out Hst.out (by rw [← hN.out, ← hnn.out]; have := hMj.out; have := hMn2.out; omega))
      go_wp2_with fail
      go_ret2
      exact ⟨.slice ao M co, by rw [Hf.out]; rfl, by rw [Hf.out]; exact O.out.base hq1, Ew⟩
end Go.Proofs.Ytffcfambgcaikaa
