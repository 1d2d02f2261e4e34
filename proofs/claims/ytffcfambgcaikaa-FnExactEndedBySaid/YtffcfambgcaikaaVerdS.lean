/- The walks of StateAfter and VerdictOf of spec. Conditions: the bounds and the happenings can be read, at most two million. -/
import Derived.Test.YtffcfambgcaikaaVerdictS
namespace Go.Proofs.Ytffcfambgcaikaa
open Go.RowKit
set_option linter.unusedVariables false
set_option linter.unusedSimpArgs false
set_option maxRecDepth 100000 in
set_option maxHeartbeats 4000000 in
theorem spec_StateAfter (p : Pl) (bs lv : Value) (l : List Hp) (now : Int) (w : World) (hv : Bds w 0 bs p.bs) (hh : Hps w 0 lv l) (hlen : l.length ≤ 2000000) :
    Calls Try.prog 69 #[.agg #[.int .i64 p.pts, bs], lv, .int .i64 now] w (RetStB w p l now) := by
  have V := Lib.hid hv
  have H := Lib.hid hh
  obtain ⟨a, c, rfl, hn, hc, -⟩ := hv.open
  obtain ⟨al, cl, rfl, hnl, hcl, -⟩ := hh.open
  obtain ⟨ok, hok⟩ : ∃ b, Hid (b = (p.heard l && inB now (lastT l) 2000)) := ⟨_, rfl⟩
  obtain ⟨N, hN⟩ : ∃ N, Hid (N = l.length) := ⟨_, rfl⟩
  rw [← hN.out] at hnl hlen ⊢
  clear hv hh
  go_enter Try.func69, Try.ntmps69
  go_wp2_with fail
  obtain ⟨W, hW, A0, R1, hs, E⟩ := two_boxes w #[.int .i64 p.pts, .slice a p.bs.length c] #[.int .i64 0, .slice none 0 0] 25 43
  rw [← hW.out]
  refine (spec_HeardOk p _ _ l _ (V.out.ext E) (show Hps W 0 (.slice al N cl) l by rw [hN.out]; exact H.out.ext E) (by rw [← hN.out]; exact hlen)).mono ?_
  rintro e w1 ⟨rfl, hb1⟩
  have A0 := A0.ext hb1
  have R1 := R1.ext hb1
  have E := ext_trans E hb1
  clear hb1
  obtain ⟨rc0, rz0⟩ := (A0).rules; have rl0 := (A0).lt
  obtain ⟨rc1, rz1⟩ := (R1).rules; have rl1 := (R1).lt
  have bad : Hid (ok = false → ∀ wx, Below w.heap.size w wx → RetStB w p l now (.returned (.tuple #[.agg #[.int .i64 0, .slice none 0 0], .bool false])) wx) := Lib.hid fun h wx hx => ⟨0, _, [], by rw [← hok.out, h], Ints.nil _ _, (fun h2 => by rw [← hok.out, h] at h2; cases h2), hx⟩
  cases hd : p.heard l
  · have hof : ok = false := by rw [hok.out, hd]; rfl
    clear hd
    go_wp2_with fail
    refine bodyPost_ret (v := .tuple #[.agg #[.int .i64 0, .slice none 0 0], .bool false]) (by simp [results, Try.results69, go_sem, *]) rfl ?_
    exact bad.out hof _ (ext_set (ext_set E (by simp) _) (by simp) _)
  have Hd := Lib.hid hd
  have hlr := last_in hd
  have hok2 : Hid (ok = inB now (lastT l) 2000) := by rw [hok.out, hd, Bool.true_and]; exact Lib.hid rfl
  clear hd
  go_wp2_with fail
  refine (spec_l1In now 0 2000 _).mono ?_
  rintro e w2 ⟨rfl, rfl⟩
  cases hi : inB now 0 2000
  · have hof : ok = false := by
      rw [hok2.out]
      cases h2 : inB now (lastT l) 2000
      · rfl
      · have h3 := (inB_iff _ _ _).1 h2
        rw [(inB_iff _ _ _).2 ⟨by omega, h3.2⟩] at hi; cases hi
    clear hi
    go_wp2_with fail
    refine bodyPost_ret (v := .tuple #[.agg #[.int .i64 0, .slice none 0 0], .bool false]) (by simp [results, Try.results69, go_sem, *]) rfl ?_
    exact bad.out hof _ (ext_set (ext_set E (by simp) _) (by simp) _)
  have hnow := (inB_iff _ _ _).1 hi
  clear hi
  have fin : Hid (ok = true → ∀ wx v, Ints wx w1.heap.size v (doneL p.n l) → Below w1.heap.size w1 wx → RetStB w p l now (.returned (.tuple #[.agg #[.int .i64 now, v], .bool true])) ((wx.setCell ⟨w.heap.size + 1, 0, none⟩ (.int .i64 now)).setCell ⟨w.heap.size + 1, 1, none⟩ v)) := Lib.hid fun h wx v hv hx => by
    refine ⟨now, v, _, by rw [← hok.out, h], ((hv.low (by dsimp only; omega) _).low (by dsimp only; omega) _).base E.size, fun _ => ⟨rfl, rfl⟩, ext_set (ext_set (ext_trans E hx) (by simp) _) (by simp) _⟩
  have call : Hid (∀ wx, Below w1.heap.size w1 wx → Calls Try.prog 46 #[.agg #[.int .i64 p.pts, .slice a p.bs.length c], .slice al N cl, .int .i64 now] wx (RetSt wx now (doneL p.n l))) := Lib.hid fun wx hx => spec_l14State p _ _ l now wx ((V.out.ext E).ext hx) (show Hps wx 0 (.slice al N cl) l by rw [hN.out]; exact (H.out.ext E).ext hx) Hd.out
  by_cases hN0 : 0 < N
  · have hN0i : (0 : Int) < (N : Int) := by omega
    obtain ⟨g, ha, hg, -, cy⟩ := (H.out.ext E).atA (j := N - 1) (by rw [← hN.out]; omega)
    subst ha
    obtain ⟨y, hy⟩ : ∃ x, Hid (x = lastT l) := ⟨_, rfl⟩
    rw [hN.out, ← last_at l (by rw [← hN.out]; exact hN0), ← hy.out, ← hN.out] at cy
    rw [← hy.out] at hlr hok2
    have hk1 : (N : Int) - 1 = ((N - 1 : Nat) : Int) := by omega
    have hk1N : N - 1 < N := by omega
    have hk1i : 0 ≤ (N : Int) - 1 := by omega
    have hk1M : (N : Int) - 1 < (N : Int) := by omega
    have hk1n : ((N : Int) - 1).toNat = N - 1 := by omega
    by_cases hyn : now < y
    · have hof : ok = false := by
        rw [hok2.out]
        cases h2 : inB now y 2000
        · rfl
        · have h3 := (inB_iff _ _ _).1 h2; omega
      go_wp2_with fail
      refine bodyPost_ret (v := .tuple #[.agg #[.int .i64 0, .slice none 0 0], .bool false]) (by simp [results, Try.results69, go_sem, *]) rfl ?_
      exact bad.out hof _ (ext_set (ext_set E (by simp) _) (by simp) _)
    · have hot : ok = true := by rw [hok2.out]; exact (inB_iff _ _ _).2 (by omega)
      go_wp2_with fail
      refine (call.out _ (ext_refl _)).mono ?_
      rintro e w3 ⟨v, rfl, hvd, hb3⟩
      have R2 := R1.ext hb3
      obtain ⟨av, cv, rfl, -⟩ := hvd.open
      have Hvd := Lib.hid hvd
      clear rc0 rz0 rl0 rc1 rz1 rl1 hvd cy
      obtain ⟨rc1, rz1⟩ := (R2).rules; have rl1 := (R2).lt
      go_wp2_with fail
      refine bodyPost_ret (v := .tuple #[.agg #[.int .i64 now, .slice av (doneL p.n l).length cv], .bool true]) (by simp [results, Try.results69, go_sem, *]) rfl ?_
      exact fin.out hot _ _ Hvd.out hb3
  · have hN0i : ¬ (0 : Int) < (N : Int) := by omega
    have hot : ok = true := by rw [hok2.out, last_zero l (by rw [← hN.out]; omega)]; exact (inB_iff _ _ _).2 hnow
    go_wp2_with fail
    refine (call.out _ (ext_refl _)).mono ?_
    rintro e w3 ⟨v, rfl, hvd, hb3⟩
    have R2 := R1.ext hb3
    obtain ⟨av, cv, rfl, -⟩ := hvd.open
    have Hvd := Lib.hid hvd
    clear rc0 rz0 rl0 rc1 rz1 rl1 hvd
    obtain ⟨rc1, rz1⟩ := (R2).rules; have rl1 := (R2).lt
    go_wp2_with fail
    refine bodyPost_ret (v := .tuple #[.agg #[.int .i64 now, .slice av (doneL p.n l).length cv], .bool true]) (by simp [results, Try.results69, go_sem, *]) rfl ?_
    exact fin.out hot _ _ Hvd.out hb3
theorem verd_no {p : Pl} {l : List Hp} {now : Int} (h : (p.heard l && inB now (lastT l) 2000) = false) : p.verdict l now = -1 := if_pos h
theorem verd_bad {p : Pl} {l : List Hp} {now : Int} (h : (p.heard l && inB now (lastT l) 2000) = true) (h2 : p.goes now (doneL p.n l) = false) : p.verdict l now = 2 := by
  unfold Pl.verdict; rw [if_neg (by rw [h]; simp), if_pos h2]
theorem verd_kept {p : Pl} {l : List Hp} {now : Int} (h : (p.heard l && inB now (lastT l) 2000) = true) (h2 : p.goes now (doneL p.n l) = true) (h3 : l.length + 1 = p.n) : p.verdict l now = 0 := by
  unfold Pl.verdict; rw [if_neg (by rw [h]; simp), if_neg (by rw [h2]; simp), if_pos h3]
theorem verd_open {p : Pl} {l : List Hp} {now : Int} (h : (p.heard l && inB now (lastT l) 2000) = true) (h2 : p.goes now (doneL p.n l) = true) (h3 : l.length + 1 ≠ p.n) : p.verdict l now = 1 := by
  unfold Pl.verdict; rw [if_neg (by rw [h]; simp), if_neg (by rw [h2]; simp), if_neg h3]
set_option maxRecDepth 100000 in
set_option maxHeartbeats 4000000 in
theorem spec_VerdictOf (p : Pl) (bs lv : Value) (l : List Hp) (now : Int) (w : World) (hv : Bds w 0 bs p.bs) (hh : Hps w 0 lv l) (hlen : l.length ≤ 2000000) :
    Calls Try.prog 45 #[.agg #[.int .i64 p.pts, bs], lv, .int .i64 now] w fun e w' => e = .returned (.int .i64 (p.verdict l now)) ∧ Below w.heap.size w w' := by
  have V := Lib.hid hv
  have H := Lib.hid hh
  obtain ⟨a, c, rfl, hn, hc, -⟩ := hv.open
  obtain ⟨al, cl, rfl, hnl, hcl, -⟩ := hh.open
  obtain ⟨N, hN⟩ : ∃ N, Hid (N = l.length) := ⟨_, rfl⟩
  rw [← hN.out] at hnl hlen ⊢
  clear hv hh
  go_enter Try.func45, Try.ntmps45
  go_wp2_with fail
  obtain ⟨W, hW, A0, hs, E⟩ := one_box w #[.int .i64 p.pts, .slice a p.bs.length c] 25
  rw [← hW.out]
  obtain ⟨rc0, rz0⟩ := (A0).rules; have rl0 := (A0).lt
  go_wp2_with fail
  refine (spec_StateAfter p _ _ l now _ (V.out.ext E) (show Hps W 0 (.slice al N cl) l by rw [hN.out]; exact H.out.ext E) (by rw [← hN.out]; exact hlen)).mono ?_
  rintro e w1 ⟨x, v, d, rfl, hvd, hxd, hb1⟩
  obtain ⟨ok, hok⟩ : ∃ b, Hid (b = (p.heard l && inB now (lastT l) 2000)) := ⟨_, rfl⟩
  have Hxd := Lib.hid hxd
  rw [← hok.out] at Hxd ⊢
  obtain ⟨av, cv, rfl, -⟩ := hvd.open
  have A0 := A0.ext hb1
  have E := ext_trans E hb1
  have D := Lib.hid hvd
  clear hvd hxd hb1 rc0 rz0 rl0
  go_upto_region 2 with fail
  obtain ⟨w2, hw2, S0, hs2, E2⟩ := one_box w1 #[.int .i64 x, .slice av d.length cv] 43
  rw [← hw2.out]
  have A0 := A0.ext E2
  have D := Lib.hid (D.out.ext E2)
  have E := ext_trans E E2
  obtain ⟨rc0, rz0⟩ := (A0).rules; have rl0 := (A0).lt
  obtain ⟨rc1, rz1⟩ := (S0).rules; have rl1 := (S0).lt
  cases hc : ok
  · have Hf : Hid (p.verdict l now = -1) := Lib.hid (verd_no (by rw [← hok.out]; exact hc))
    clear hc
    go_wp2_with fail
    go_ret
    exact ⟨by rw [Hf.out]; rfl, E⟩
  obtain ⟨hx, hdd⟩ := Hxd.out hc
  subst hdd
  have Hok : Hid ((p.heard l && inB now (lastT l) 2000) = true) := by rw [← hok.out]; exact Lib.hid hc
  have hlenn := Hok.out
  rw [Bool.and_eq_true] at hlenn
  obtain ⟨q1, q2, q3, -, -⟩ := plok_in (fits_ok (heard_iff.1 hlenn.1).1).1
  have hl6 := (heard_len hlenn.1).1
  obtain ⟨n, hnn⟩ : ∃ n, Hid (n = p.n) := ⟨_, rfl⟩
  have Hp : Hid (p.pts = (n : Int)) := by rw [hnn.out]; exact Lib.hid q1
  rw [← hnn.out, ← hN.out] at hl6
  rw [← hnn.out] at q3
  have Hx := Lib.hid hx
  clear hc hx hlenn q1 q2
  go_wp2_with fail
  refine (spec_GoesOnOk p _ _ x (doneL p.n l) _ (V.out.ext E) (D.out.base (Nat.zero_le _))).mono ?_
  rintro e w3 ⟨rfl, hb3⟩
  rw [show p.goes x (doneL p.n l) = p.goes now (doneL p.n l) by rw [Hx.out]]
  clear rc0 rz0 rl0 rc1 rz1 rl1
  have A0 := A0.ext hb3
  have E := ext_trans E hb3
  rw [Hp.out] at A0
  obtain ⟨rc0, rz0⟩ := (A0).rules; have rl0 := (A0).lt
  cases hg : p.goes now (doneL p.n l)
  · have Hf : Hid (p.verdict l now = 2) := Lib.hid (verd_bad Hok.out hg)
    clear hg
    go_wp2_with fail
    go_ret
    exact ⟨by rw [Hf.out]; rfl, E⟩
  by_cases hNn : N + 1 = n
  · have Hf : Hid (p.verdict l now = 0) := Lib.hid (verd_kept Hok.out hg (by rw [← hN.out, ← hnn.out]; exact hNn))
    have hb : ((N : Int) == (n : Int) - 1) = true := by simp; omega
    have HNn := Lib.hid hNn
    clear hg hNn
    go_wp2_with fail
    go_ret
    exact ⟨by rw [Hf.out]; rfl, E⟩
  · have Hf : Hid (p.verdict l now = 1) := Lib.hid (verd_open Hok.out hg (by rw [← hN.out, ← hnn.out]; exact hNn))
    have hb : ((N : Int) == (n : Int) - 1) = false := beq_false_of_ne (by omega)
    have HNn := Lib.hid hNn
    clear hg hNn
    go_wp2_with fail
    go_ret
    exact ⟨by rw [Hf.out]; rfl, E⟩
end Go.Proofs.Ytffcfambgcaikaa
