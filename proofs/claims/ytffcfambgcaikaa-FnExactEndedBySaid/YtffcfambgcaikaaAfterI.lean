/- The walks of lastTime, StateNew and StateAfter of impl. Conditions: the bounds and the happenings can be read, at most two million; of StateNew: the plan fits. -/
import Derived.Test.YtffcfambgcaikaaHeardI
namespace Go.Proofs.Ytffcfambgcaikaa
open Go.RowKit
set_option linter.unusedVariables false
set_option linter.unusedSimpArgs false
set_option maxRecDepth 100000 in
theorem impl_lastTime (lv : Value) (l : List Hp) (w : World) (hh : Hps w 0 lv l) (hlen : l.length ≤ 2000000) :
    Calls Try.prog 42 #[lv] w fun e w' => e = .returned (.int .i64 (lastT l)) ∧ w = w' := by
  have H := Lib.hid hh
  obtain ⟨al, cl, rfl, hnl, hcl, -⟩ := hh.open
  obtain ⟨N, hN⟩ : ∃ N, Hid (N = l.length) := ⟨_, rfl⟩
  rw [← hN.out] at hnl hlen ⊢
  obtain ⟨y, hy⟩ : ∃ x, Hid (x = lastT l) := ⟨_, rfl⟩
  clear hh
  by_cases hN0 : N = 0
  · have hb : ((N : Int) == 0) = true := by simp [hN0]
    have hy0 : Hid (y = 0) := by rw [hy.out]; exact Lib.hid (last_zero l (by rw [← hN.out]; exact hN0))
    have HN0 := Lib.hid hN0
    clear hN0
    go_enter Try.func42, Try.ntmps42
    go_wp2_with fail
    go_ret
    exact ⟨by rw [← hy.out, hy0.out]; rfl, rfl⟩
  · have hb : ((N : Int) == 0) = false := beq_false_of_ne (by omega)
    obtain ⟨g, ha, hg, -, cy⟩ := H.out.atA (j := N - 1) (by rw [← hN.out]; omega)
    subst ha
    rw [hN.out, ← last_at l (by rw [← hN.out]; omega), ← hy.out, ← hN.out] at cy
    have hk1 : (N : Int) - 1 = ((N - 1 : Nat) : Int) := by omega
    have hk1N : N - 1 < N := by omega
    have hk1i : 0 ≤ (N : Int) - 1 := by omega
    have hk1M : (N : Int) - 1 < (N : Int) := by omega
    have hk1n : ((N : Int) - 1).toNat = N - 1 := by omega
    have HN0 := Lib.hid hN0
    clear hN0
    go_enter Try.func42, Try.ntmps42
    go_wp2_with fail
    go_ret
    exact ⟨by rw [← hy.out]; rfl, rfl⟩
def newTo (n k : Nat) : List Int := rowOf n (fun j => if 1 ≤ j ∧ j < k then -1 else 0)
theorem newTo_all (n : Nat) (hn : 1 ≤ n) : newTo n n = base0 n := by
  apply List.ext_getElem?
  intro i
  by_cases hi : i < n
  · rw [getD_of _ i 0 (by rw [newTo, rowOf_length]; exact hi), getD_of _ i 0 (by rw [base0_len n hn]; exact hi)]
    have h1 : (newTo n n).getD i 0 = if 1 ≤ i ∧ i < n then -1 else 0 := rowOf_getD _ _ _ hi
    have h2 : (base0 n).getD i 0 = if i = 0 then 0 else -1 := base0_at hi
    rw [h1, h2]
    by_cases e : i = 0
    · rw [if_pos e, if_neg (by omega)]
    · rw [if_neg e, if_pos (by omega)]
  · rw [List.getElem?_eq_none (by rw [newTo, rowOf_length]; omega), List.getElem?_eq_none (by rw [base0_len n hn]; omega)]
theorem newTo_succ (n k : Nat) (hk : 1 ≤ k) (hkn : k < n) : (newTo n k).set k (-1) = newTo n (k+1) := by
  unfold newTo
  rw [rowOf_set]
  refine rowOf_congr _ _ _ fun j hj => ?_
  by_cases e : j = k
  · rw [if_pos e, if_pos (by omega)]
  · rw [if_neg e]
    by_cases h : 1 ≤ j ∧ j < k
    · rw [if_pos h, if_pos (by omega)]
    · rw [if_neg h, if_neg (by omega)]
theorem newTo_zero (n : Nat) : newTo n 1 = rowOf n fun _ => 0 := rowOf_congr _ _ _ fun j hj => if_neg (by omega)
set_option maxRecDepth 100000 in
set_option maxHeartbeats 4000000 in
theorem impl_StateNew (p : Pl) (bs : Value) (w : World) (hv : Bds w 0 bs p.bs) (hf : p.fits = true) :
    Calls Try.prog 56 #[.agg #[.int .i64 p.pts, bs]] w fun e w' => ∃ v, e = .returned (.tuple #[.agg #[.int .i64 0, v], .bool true]) ∧ Ints w' w.heap.size v (base0 p.n) ∧ Below w.heap.size w w' := by
  have V := Lib.hid hv
  have Hf := Lib.hid hf
  obtain ⟨a, c, rfl, hn, hc, -⟩ := hv.open
  obtain ⟨q1, q2, q3, -, -⟩ := plok_in (fits_ok hf).1
  obtain ⟨n, hnn⟩ : ∃ n, Hid (n = p.n) := ⟨_, rfl⟩
  have HPt : Hid (p.pts = (n : Int)) := by rw [hnn.out]; exact Lib.hid q1
  rw [← hnn.out] at q2 q3 ⊢
  clear hv hf q1
  obtain ⟨i1, hi', hz0', hz1', hz2'⟩ := info_parts info_int
  have Hi' := Lib.hid hi'; have Hz0' := Lib.hid hz0'; have Hz1' := Lib.hid hz1'; have Hz2' := Lib.hid hz2'
  clear hi' hz0' hz1' hz2'
  go_enter Try.func56, Try.ntmps56
  go_wp2_with fail
  obtain ⟨W, hW, A0, R1, hs, E⟩ := two_boxes w #[.int .i64 p.pts, .slice a p.bs.length c] #[.int .i64 0, .slice none 0 0] 25 43
  rw [← hW.out]
  obtain ⟨rc0, rz0⟩ := (A0).rules; have rl0 := (A0).lt
  go_wp2_with fail
  refine (impl_FitsOk p _ _ (V.out.ext E)).mono ?_
  rintro e w1 ⟨rfl, hb1⟩
  rw [Hf.out]
  clear rc0 rz0 rl0
  have A0 := A0.ext hb1
  have R1 := R1.ext hb1
  have E := ext_trans E hb1
  rw [HPt.out] at A0
  obtain ⟨rc0, rz0⟩ := (A0).rules; have rl0 := (A0).lt
  go_upto_region 4 with (at_make; refine wpList_make_full _ rfl (.tmp 11) (.tmp 11) 41 rfl w1.heap.size 3 i1 _ 1 Try.underlying41 Hi'.out Hz0'.out Hz1'.out .i64 .i64 n n n rfl rfl rfl rfl (by rw [Hz2'.out]; omega) (by unfold maxLen; omega) (by omega) ?_; intro w2 hown hgrow)
  have D : Hid (Ints w2 w1.heap.size (.slice (some ⟨w1.heap.size, 0, none⟩) n n) (newTo n 1)) := by
    rw [newTo_zero]
    show Hid (Ints _ _ _ _)
    unfold Ints
    rw [rowOf_length, ← zeros_made]
    exact Lib.hid hown
  have hb2 : Below w1.heap.size w1 w2 := ext_grown (ext_refl w1) hgrow (by simp)
  have h12 := (D.out.lt w1.heap.size rfl).2
  clear hown hgrow
  obtain ⟨w3, hw3, S0, hs3, E3⟩ := one_box w2 #[.int .i64 0, .slice (some ⟨w1.heap.size, 0, none⟩) n n] 43
  rw [← hw3.out]
  have D := Lib.hid (D.out.ext E3)
  have hb2 := ext_trans hb2 E3
  have A3 := A0.ext hb2
  clear rc0 rz0 rl0
  obtain ⟨rc0, rz0⟩ := (A3).rules; have rl0 := (A3).lt
  have hR1l : w.heap.size + 1 < w1.heap.size := R1.lt
  go_wp2_with fail
  clear rc0 rz0 rl0
  go_loopg [5] (n - 1) (fun m kk wr => ∃ k : Nat, 1 ≤ k ∧ k ≤ n ∧ m = n - k ∧ kk = .int .i64 k ∧ Hid (Ints wr w1.heap.size (.slice (some ⟨w1.heap.size, 0, none⟩) n n) (newTo n k)) ∧ Below w1.heap.size w1 wr ∧ Box wr w2.heap.size 43 #[.int .i64 0, .slice (some ⟨w1.heap.size, 0, none⟩) n n])
  case atStart => exact ⟨1, Nat.le_refl _, q2, rfl, rfl, D, hb2, S0⟩
  case round =>
    clear D hb2 S0
    obtain ⟨k, hk1, hk, hgk, rfl, D, hb, S0⟩ := hrel
    have Hk := Lib.hid hgk
    clear hgk
    have A1 := A0.ext hb
    have hbs := hb.size
    obtain ⟨rc0, rz0⟩ := (A1).rules; have rl0 := (A1).lt
    obtain ⟨rc1, rz1⟩ := (S0).rules; have rl1 := (S0).lt
    by_cases hlk : k < n
    · obtain ⟨g', he, -, hgl, hgf, hz⟩ := D.out.at_ (j := k) (by unfold newTo; rw [rowOf_length]; exact hlk)
      cases he
      obtain ⟨z, hz0⟩ : ∃ z, Hid (z = (newTo n k).getD k 0) := ⟨_, rfl⟩
      rw [← hz0.out] at hz
      go_wp2_with fail
      have hds := D.out.set k (-1)
      rw [newTo_succ n k hk1 hlk] at hds
      go_roundg (n - (k+1))
      case rel => exact ⟨k+1, by omega, by omega, rfl, by go_num, Lib.hid hds, ext_set hb (Nat.le_refl _) _, S0.far (by dsimp only; omega) _⟩
      case measure => have := Hk.out; omega
    · have hkn : k = n := by omega
      subst hkn
      have R2 := R1.ext hb
      obtain ⟨rc2, rz2⟩ := (R2).rules; have rl2 := (R2).lt
      have hWs := E.size
      go_wp2_with fail
      refine bodyPost_ret (v := .tuple #[.agg #[.int .i64 0, .slice (some ⟨w1.heap.size, 0, none⟩) k k], .bool true]) (by simp [results, Try.results56, go_sem, *]) rfl ?_
      have hD := D.out
      rw [newTo_all k q2] at hD
      exact ⟨_, rfl, ((hD.low (by dsimp only; omega) _).low (by dsimp only; omega) _).base hWs, ext_set (ext_set (ext_trans E hb) (by simp) _) (by simp) _⟩
set_option maxRecDepth 100000 in
set_option maxHeartbeats 8000000 in
theorem impl_StateAfter (p : Pl) (bs lv : Value) (l : List Hp) (now : Int) (w : World) (hv : Bds w 0 bs p.bs) (hh : Hps w 0 lv l) (hlen : l.length ≤ 2000000) :
    Calls Try.prog 21 #[.agg #[.int .i64 p.pts, bs], lv, .int .i64 now] w (RetStB w p l now) := by
  have V := Lib.hid hv
  have H := Lib.hid hh
  obtain ⟨a, c, rfl, hn, hc, -⟩ := hv.open
  obtain ⟨al, cl, rfl, hnl, hcl, -⟩ := hh.open
  obtain ⟨ok, hok⟩ : ∃ b, Hid (b = (p.heard l && inB now (lastT l) 2000)) := ⟨_, rfl⟩
  obtain ⟨N, hN⟩ : ∃ N, Hid (N = l.length) := ⟨_, rfl⟩
  rw [← hN.out] at hnl hlen ⊢
  clear hv hh
  go_enter Try.func21, Try.ntmps21
  go_wp2_with fail
  obtain ⟨W, hW, A0, R1, hs, E⟩ := two_boxes w #[.int .i64 p.pts, .slice a p.bs.length c] #[.int .i64 0, .slice none 0 0] 25 43
  rw [← hW.out]
  obtain ⟨rc0, rz0⟩ := (A0).rules; have rl0 := (A0).lt
  go_wp2_with fail
  refine (impl_HeardOk p _ _ l _ (V.out.ext E) (show Hps _ 0 (.slice al N cl) l by rw [hN.out]; exact H.out.ext E) (by rw [← hN.out]; exact hlen)).mono ?_
  rintro e w1 ⟨rfl, hb1⟩
  clear rc0 rz0 rl0
  have A0 := A0.ext hb1
  have R1 := R1.ext hb1
  have E := ext_trans E hb1
  clear hb1
  obtain ⟨rc0, rz0⟩ := (A0).rules; have rl0 := (A0).lt
  obtain ⟨rc1, rz1⟩ := (R1).rules; have rl1 := (R1).lt
  have bad : Hid (ok = false → ∀ wx, Below w.heap.size w wx → RetStB w p l now (.returned (.tuple #[.agg #[.int .i64 0, .slice none 0 0], .bool false])) wx) := Lib.hid fun h wx hx => ⟨0, _, [], by rw [← hok.out, h], Ints.nil _ _, (fun h2 => by rw [← hok.out, h] at h2; cases h2), hx⟩
  cases hd : p.heard l
  · have hof : ok = false := by rw [hok.out, hd]; rfl
    clear hd
    go_wp2_with fail
    refine bodyPost_ret (v := .tuple #[.agg #[.int .i64 0, .slice none 0 0], .bool false]) (by simp [results, Try.results21, go_sem, *]) rfl ?_
    exact bad.out hof _ (ext_set (ext_set E (by simp) _) (by simp) _)
  have Hd := Lib.hid hd
  obtain ⟨y, hy⟩ : ∃ x, Hid (x = lastT l) := ⟨_, rfl⟩
  have hok2 : Hid (ok = inB now y 2000) := by rw [hok.out, hd, Bool.true_and, hy.out]; exact Lib.hid rfl
  clear hd
  have H1 : Hid (Hps w1 0 (.slice al N cl) l) := by rw [hN.out]; exact Lib.hid (H.out.ext E)
  go_wp2_with fail
  refine (impl_lastTime _ l _ H1.out (by rw [← hN.out]; exact hlen)).mono ?_
  rintro e w2 ⟨rfl, rfl⟩
  rw [← hy.out]
  go_wp2_with fail
  refine (impl_in now y 2000 _).mono ?_
  rintro e w2 ⟨rfl, rfl⟩
  cases hi : inB now y 2000
  · have hof : ok = false := by rw [hok2.out, hi]
    clear hi
    go_wp2_with fail
    refine bodyPost_ret (v := .tuple #[.agg #[.int .i64 0, .slice none 0 0], .bool false]) (by simp [results, Try.results21, go_sem, *]) rfl ?_
    exact bad.out hof _ (ext_set (ext_set E (by simp) _) (by simp) _)
  have hot : Hid (ok = true) := by rw [hok2.out, hi]; exact Lib.hid rfl
  clear hi
  obtain ⟨hf, hl⟩ := heard_iff.1 Hd.out
  obtain ⟨q1, q2, q3, -, -⟩ := plok_in (fits_ok hf).1
  have hl6 := (heard_len Hd.out).1
  obtain ⟨n, hnn⟩ : ∃ n, Hid (n = p.n) := ⟨_, rfl⟩
  rw [← hnn.out] at q2 q3 hl6
  rw [← hN.out] at hl6
  have Hf := Lib.hid hf
  clear hf hl q1
  go_wp2_with fail
  refine (impl_StateNew p _ _ (V.out.ext E) Hf.out).mono ?_
  rintro e w2 ⟨v, rfl, hvd, hb2⟩
  obtain ⟨av, cv, hav, -⟩ := hvd.open
  have hbl : (base0 p.n).length = n := by rw [← hnn.out]; exact base0_len n q2
  rw [hbl] at hav
  subst hav
  have D : Hid (Ints w2 w1.heap.size (.slice av n cv) (doneTo n l 0)) := by rw [hnn.out] at hvd ⊢; exact Lib.hid hvd
  obtain ⟨gd, hgd, hgdb, hgdl, hgdf, -⟩ := D.out.at_ (j := 0) (by rw [doneTo_length n q2]; omega)
  subst hgd
  clear hvd hbl rc0 rz0 rl0 rc1 rz1 rl1
  go_upto_region 4 with fail
  obtain ⟨w3, hw3, S0, hs3, E3⟩ := one_box w2 #[.int .i64 0, .slice (some ⟨gd, 0, none⟩) n cv] 43
  rw [← hw3.out]
  have D := Lib.hid (D.out.ext E3)
  have hb3 := ext_trans hb2 E3
  have h12 := hb2.size
  clear hb2 E3
  obtain ⟨rc0, rz0⟩ := (S0).rules; have rl0 := (S0).lt
  go_upto_region 5 with fail
  clear rc0 rz0 rl0
  obtain ⟨w4, hw4⟩ : ∃ x, Hid (x = w3.setCell ⟨w2.heap.size, 0, none⟩ (.int .i64 now)) := ⟨_, rfl⟩
  have hgne : gd ≠ w2.heap.size := by have := hgdl; omega
  have D : Hid (Ints w4 w1.heap.size (.slice (some ⟨gd, 0, none⟩) n cv) (doneTo n l 0)) := by
    rw [hw4.out]
    exact Lib.hid (D.out.far (grown_set (i := 0) (World.grownBy.refl _ (some w2.heap.size)) _) (fun q hq e => by simp [Value.ownBlock] at hq; injection e with e; omega))
  have hb4 : Below w1.heap.size w1 w4 := by rw [hw4.out]; exact ext_set hb3 (by dsimp only; omega) _
  have S0 : Box w4 w2.heap.size 43 #[.int .i64 now, .slice (some ⟨gd, 0, none⟩) n cv] := by rw [hw4.out]; exact S0.set 0 _
  rw [← hw4.out]
  go_wp2_with fail
  go_loopg [33] N (fun m jj wx => ∃ j : Nat, j ≤ N ∧ m = N - j ∧ jj = .int .i64 j ∧ Hid (Ints wx w1.heap.size (.slice (some ⟨gd, 0, none⟩) n cv) (doneTo n l j)) ∧ Below w1.heap.size w1 wx ∧ Box wx w2.heap.size 43 #[.int .i64 now, .slice (some ⟨gd, 0, none⟩) n cv])
  case atStart => exact ⟨0, by omega, by omega, rfl, D, hb4, S0⟩
  case round =>
    clear D hb3 hb4 S0
    rename World => wx
    obtain ⟨j, hj, hgj, rfl, D, hb, S0⟩ := hrel
    have Hj := Lib.hid hgj
    clear hgj
    by_cases hlj : j < N
    · obtain ⟨g, ha, hg, cx, cy⟩ := (H1.out.ext hb).atA (j := j) (by rw [← hN.out]; exact hlj)
      subst ha
      obtain ⟨q, hq, hq1, hqn⟩ := heard_at Hd.out (k := j) (by rw [← hN.out]; exact hlj)
      rw [← hnn.out] at hqn
      have hqt : (hA l j).pt.toNat = q := by omega
      obtain ⟨z, hz⟩ : ∃ x, Hid (x = (hA l j).tm) := ⟨_, rfl⟩
      have hnx : Hid (doneTo n l (j+1) = (doneTo n l j).set q z) := by rw [hz.out, ← hqt]; exact Lib.hid rfl
      rw [hq] at cx
      rw [← hz.out] at cy
      clear hq hqt
      go_upto_region 8 with fail
      obtain ⟨w5, hw5, B0, hs5, E5⟩ := one_box wx #[.int .i64 q, .int .i64 z] 30
      rw [← hw5.out]
      have D := Lib.hid (D.out.ext E5)
      have S0 := S0.ext E5
      have hb := ext_trans hb E5
      clear cx cy
      obtain ⟨g', he, -, hgdx, hgdf, hzz⟩ := D.out.at_ (j := q) (by rw [doneTo_length n q2]; omega)
      cases he
      obtain ⟨u, hu⟩ : ∃ z, Hid (z = (doneTo n l j).getD q 0) := ⟨_, rfl⟩
      rw [← hu.out] at hzz
      obtain ⟨rc0, rz0⟩ := (S0).rules; have rl0 := (S0).lt
      obtain ⟨rc1, rz1⟩ := (B0).rules; have rl1 := (B0).lt
      go_wp2_with fail
      have hds := D.out.set q z
      rw [← hnx.out] at hds
      go_roundg (N - (j+1))
      case rel => exact ⟨j+1, by omega, rfl, by go_num, Lib.hid hds, ext_set hb (by dsimp only; omega) _, S0.far (by dsimp only; omega) _⟩
      case measure => have := Hj.out; omega
    · have hjN : j = N := by omega
      subst hjN
      have R2 := R1.ext hb
      obtain ⟨rc0, rz0⟩ := (S0).rules; have rl0 := (S0).lt
      obtain ⟨rc1, rz1⟩ := (R2).rules; have rl1 := (R2).lt
      have hWs := E.size
      have hR1l : w.heap.size + 1 < w1.heap.size := R1.lt
      go_wp2_with fail
      refine bodyPost_ret (v := .tuple #[.agg #[.int .i64 now, .slice (some ⟨gd, 0, none⟩) n cv], .bool true]) (by simp [results, Try.results21, go_sem, *]) rfl ?_
      have hD := D.out
      rw [hN.out, hnn.out] at hD
      exact ⟨now, .slice (some ⟨gd, 0, none⟩) n cv, doneL p.n l, by rw [← hok.out, hot.out], ((Ints.low (by rw [hnn.out]; exact hD) (by dsimp only; omega) _).low (by dsimp only; omega) _).base hWs, fun _ => ⟨rfl, rfl⟩, ext_set (ext_set (ext_trans E hb) (by simp) _) (by simp) _⟩
end Go.Proofs.Ytffcfambgcaikaa
