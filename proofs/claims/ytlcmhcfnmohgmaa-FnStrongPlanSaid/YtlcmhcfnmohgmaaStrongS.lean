/- The walks of l8Strong and StrongPlan of both. Condition: the deal can be read. -/
import Derived.Test.YtlcmhcfnmohgmaaStrong
import Derived.Test.YtlcmhcfnmohgmaaPlanOut
namespace Go.Proofs.Ytlcmhcfnmohgmaa
open Go.RowKit
set_option linter.unusedVariables false
set_option linter.unusedSimpArgs false
theorem map_take_succ (l : List Pr) (bs : List Bd) (i : Nat) (h : i < bs.length) : (bs.take (i+1)).map (strS l) = (bs.take i).map (strS l) ++ [strS l (bs.getD i Bd.z)] := by
  rw [List.take_add_one, getD_of bs i Bd.z h]; simp
set_option maxRecDepth 100000 in
set_option maxHeartbeats 16000000 in
theorem spec_l8Strong (p : Pl) (b v : Value) (l : List Pr) (w : World) (hb : Bds w 0 b p.bs) (hv : Prs w 0 v l) (hd : dealOk p l = true) :
    Calls Try.prog 71 #[.agg #[.int .i64 p.pts, b, v]] w (RetPlan w ⟨p.pts, p.bs.map (strS l)⟩) := by
  have Hv := Lib.hid hv; have Hb := Lib.hid hb
  obtain ⟨a, cap, rfl, hn, hc, -⟩ := hv.open
  obtain ⟨ab, cb, rfl, -⟩ := hb.open
  have h12 := (deal_use hd).2.1
  have h2 := (deal_use hd).2.2.1
  have HM := Lib.hid (ok_nums (deal_use hd).1)
  have HP := Lib.hid (deal_nums hd)
  clear hv hb hd
  go_enter Try.func71, Try.ntmps71
  go_upto_region 2 with fail
  obtain ⟨W, hW, A0, R1, P3, hs, E⟩ := three_boxes w #[.int .i64 p.pts, .slice ab p.bs.length cb, .slice a l.length cap] #[.int .i64 0, .slice none 0 0] #[.int .i64 p.pts, .slice none 0 0] 44 25 25
  rw [← hW.out]
  go_wp2_with fail
  go_loopg [4] p.bs.length (fun m ii wr => ∃ (i : Nat) (T : List Bd) (vo : Value), i ≤ p.bs.length ∧ m = p.bs.length - i ∧ ii = .int .i64 i ∧ Hid (T = (p.bs.take i).map (strS l)) ∧ Hid (Bds wr W.heap.size vo T) ∧ Below (w.heap.size + 2) W wr ∧ Box wr (w.heap.size + 1 + 1) 25 #[.int .i64 p.pts, vo])
  case atStart => exact ⟨0, [], _, by omega, by omega, rfl, Lib.hid (by simp), Lib.hid (Bds.nil _ _), Below.refl _ _, P3⟩
  case round =>
    clear P3
    obtain ⟨i, T, vo, hi, hgk, rfl, hTT, Row, EW, P3⟩ := hrel
    have Hki := Lib.hid hgk
    have hTl : T.length ≤ 12 := by rw [hTT.out]; simp; omega
    obtain ⟨ao, co, rfl, -⟩ := Row.out.open
    clear hgk
    have Ew : Below w.heap.size w wr := E.trans (EW.mono (by omega))
    have A0 : Box wr w.heap.size _ _ := (EW.block w.heap.size (by omega)).trans A0
    obtain ⟨rc0, rz0⟩ := (A0).rules; have rl0 := (A0).lt
    by_cases hlt : i < p.bs.length
    · obtain ⟨gb, hgb, -, hgbl, hgbf, c0, c1, c2⟩ := (Hb.out.ext Ew).at_ (j := i) hlt
      obtain ⟨o, ho⟩ : ∃ o : Bd, Hid (o = p.bs.getD i Bd.z) := ⟨_, rfl⟩
      rw [← ho.out] at c0 c1 c2
      have hom := HM.out i hlt
      rw [← ho.out] at hom
      subst hgb
      have hP3l := P3.lt
      go_upto_region 6 with fail
      obtain ⟨w5, hw5, B5, hs5, E5⟩ := one_box wr #[.int .i64 o.f, .int .i64 o.t, .int .i64 o.m] 48
      rw [← hw5.out]
      have A0w := A0
      have P3w := P3
      have Roww := Row
      have EWw := EW
      have Eww := Ew
      have EX0 := E5
      have Row := Lib.hid (Row.out.ext E5)
      have P3 := P3.ext E5
      have A0 := A0.ext E5
      have EW := EW.trans (E5.mono (by omega))
      have Ew := Ew.trans (E5.mono Ew.size)
      clear c0 c1 c2 hgbf E5 rc0 rz0 rl0
      obtain ⟨rc5, rz5⟩ := (B5).rules; have rl5 := (B5).lt
      obtain ⟨rc3, rz3⟩ := (P3).rules; have rl3 := (P3).lt
      by_cases hft : o.f = o.t
      · have hftb : (o.f == o.t) = true := by simp [hft]
        have Hft := Lib.hid hft
        clear hft
        go_wp2_with (at_builtin; refine wpl_appB _ rfl (.tmp 32) (.tmp 34) rfl W.heap.size 0 (.slice ao T.length co) T rfl (Row.out.alloc _) (.slice (some ⟨w5.heap.size, 0, none⟩) 1 1) [o] rfl ((Bds.lit w5 o).base (Nat.zero_le _)) (by simp; omega) (by have := EW.size; simp; omega) ?_; intro v9 w9 hv9 hg9; obtain ⟨a9, c9, rfl, -⟩ := hv9.open; have P3 := (P3.alloc (.cells #[.int .i64 o.f, .int .i64 o.t, .int .i64 o.m] 48)).grown hg9 (own_not_box (Row.out.alloc (.cells #[.int .i64 o.f, .int .i64 o.t, .int .i64 o.m] 48)) (P3.alloc (.cells #[.int .i64 o.f, .int .i64 o.t, .int .i64 o.m] 48))); obtain ⟨rc9, rz9⟩ := P3.rules; have rl9 := P3.lt)
        go_roundg (p.bs.length - (i+1))
        case rel =>
          refine ⟨i+1, T ++ [o], _, by omega, rfl, by go_num, ?_, ?_, ?_, P3.set 1 _⟩
          · rw [map_take_succ l p.bs i hlt, ← ho.out, hTT.out]
            rw [strS, if_pos Hft.out]
            exact Lib.hid rfl
          · have e9 : (T ++ [o]).length = T.length + 1 := by simp
            rw [e9] at hv9
            exact Lib.hid (hv9.far (grown_set (World.grownBy.refl _ _) _) (fun k hk e => own_not_box hv9 P3 (e.trans hk.symm)))
          · exact ((EW.alloc (by have := EW.size; omega) _).grown hg9 (by have := EW.size; simp; omega) (fun q hq => by have := (Row.out.lt q hq).1; omega)).setCell (p := ⟨w.heap.size + 1 + 1, 1, none⟩) (by dsimp only; omega) _
        case measure => have := Hki.out; omega
      · have hftb : (o.f == o.t) = false := by simp [hft]
        have Hft := Lib.hid hft
        clear hft
        clear rc3 rz3 rl3
        go_wp2_with fail
        clear rc5 rz5 rl5 A0 Row P3 EW Ew
        go_loopg [6] l.length (fun m kk wx => ∃ (k : Nat) (c : Bd), k ≤ l.length ∧ m = l.length - k ∧ kk = .int .i64 k ∧ Hid (c = curS o l k) ∧ Below wr.heap.size wr wx ∧ Box wx wr.heap.size 48 #[.int .i64 c.f, .int .i64 c.t, .int .i64 c.m])
        case atStart => exact ⟨0, o, by omega, by omega, rfl, rfl, EX0, B5⟩
        case round =>
          clear B5
          rename World => wx
          obtain ⟨k, c, hk, hgk, rfl, hcc, EX, B5⟩ := hrel
          have Hkk := Lib.hid hgk
          clear hgk
          have A0 := A0w.ext EX
          by_cases hlk : k < l.length
          · obtain ⟨rc0, rz0⟩ := (A0).rules; have rl0 := (A0).lt
            have hcm : -(99 + 24 * (k : Int)) ≤ c.m ∧ c.m ≤ 99 + 24 * (k : Int) := by
              rw [hcc.out]
              exact curS_num o l k hk hom.1 hom.2 HP.out
            obtain ⟨gp, hgp, -, hgpl, hgpf, c0, c1, c2, c3⟩ := (Hv.out.ext (ext_trans Eww EX)).at_ (j := k) hlk
            obtain ⟨x, hx⟩ : ∃ x : Pr, Hid (x = l.getD k Pr.z) := ⟨_, rfl⟩
            rw [← hx.out] at c0 c1 c2 c3
            have hxn := HP.out k hlk
            rw [← hx.out] at hxn
            subst hgp
            have hB5l := B5.lt
            go_upto_region 12 with fail
            obtain ⟨wy, hwy, B7, hs7, E7⟩ := one_box wx #[.int .i64 x.f, .int .i64 x.t, .int .i64 x.lo, .int .i64 x.hi] 50
            rw [← hwy.out]
            have B5 := B5.ext E7
            have EX := ext_trans EX E7
            clear c0 c1 c2 c3 hgpf E7 rc0 rz0 rl0
            have hk2 : (k : Int) ≤ 2 := by omega
            by_cases e1 : c.t = x.t
            · by_cases e2 : c.f = x.t
              · skip
                have he1 : (c.t == x.t) = true := by simp [e1]
                have E1 := Lib.hid e1
                clear e1
                have he2 : (c.f == x.t) = true := by simp [e2]
                have E2 := Lib.hid e2
                clear e2
                obtain ⟨rc5, rz5⟩ := (B5).rules; have rl5 := (B5).lt
                obtain ⟨rc7, rz7⟩ := (B7).rules; have rl7 := (B7).lt
                go_upto_region 14 with fail
                clear rc5 rz5 rl5 rc7 rz7 rl7
                obtain ⟨w8, hw8⟩ : ∃ w8, Hid (w8 = ((wy.setCell ⟨wr.heap.size, 0, none⟩ (.int .i64 c.f)).setCell ⟨wr.heap.size, 1, none⟩ (.int .i64 x.f)).setCell ⟨wr.heap.size, 2, none⟩ (.int .i64 (c.m - x.hi))) := ⟨_, rfl⟩
                have B5 := ((B5.set 0 (.int .i64 c.f)).set 1 (.int .i64 x.f)).set 2 (.int .i64 (c.m - x.hi))
                have B7 := ((B7.far (p := ⟨wr.heap.size, 0, none⟩) (by dsimp only; omega) (.int .i64 c.f)).far (p := ⟨wr.heap.size, 1, none⟩) (by dsimp only; omega) (.int .i64 x.f)).far (p := ⟨wr.heap.size, 2, none⟩) (by dsimp only; omega) (.int .i64 (c.m - x.hi))
                have EX := ext_set (ext_set (ext_set EX (p := ⟨wr.heap.size, 0, none⟩) (Nat.le_refl _) (.int .i64 c.f)) (p := ⟨wr.heap.size, 1, none⟩) (Nat.le_refl _) (.int .i64 x.f)) (p := ⟨wr.heap.size, 2, none⟩) (Nat.le_refl _) (.int .i64 (c.m - x.hi))
                rw [← hw8.out] at B5 B7 EX ⊢
                have hmb : -200 ≤ c.m - x.hi ∧ c.m - x.hi ≤ 200 := by omega
                obtain ⟨c1, hc1⟩ : ∃ c1 : Bd, Hid (c1 = ⟨c.f, x.f, c.m - x.hi⟩) := ⟨_, rfl⟩
                have hc1f : Hid (c1.f = c.f) := by rw [hc1.out]; exact Lib.hid rfl
                have hc1t : Hid (c1.t = x.f) := by rw [hc1.out]; exact Lib.hid rfl
                have hc1m : Hid (c1.m = c.m - x.hi) := by rw [hc1.out]; exact Lib.hid rfl
                have B5 : Box w8 wr.heap.size 48 #[.int .i64 c1.f, .int .i64 c1.t, .int .i64 c1.m] := by rw [hc1f.out, hc1t.out, hc1m.out]; exact B5
                have hmb : -200 ≤ c1.m ∧ c1.m ≤ 200 := by rw [hc1m.out]; exact hmb
                have he2 : (c1.f == x.t) = true := by rw [hc1f.out]; exact he2
                obtain ⟨rc5, rz5⟩ := (B5).rules; have rl5 := (B5).lt
                obtain ⟨rc7, rz7⟩ := (B7).rules; have rl7 := (B7).lt
                go_upto_region 10 with fail
                clear rc5 rz5 rl5 rc7 rz7 rl7
                obtain ⟨w9, hw9⟩ : ∃ w9, Hid (w9 = ((w8.setCell ⟨wr.heap.size, 0, none⟩ (.int .i64 x.f)).setCell ⟨wr.heap.size, 1, none⟩ (.int .i64 c1.t)).setCell ⟨wr.heap.size, 2, none⟩ (.int .i64 (c1.m + x.lo))) := ⟨_, rfl⟩
                have B5 := ((B5.set 0 (.int .i64 x.f)).set 1 (.int .i64 c1.t)).set 2 (.int .i64 (c1.m + x.lo))
                have EX := ext_set (ext_set (ext_set EX (p := ⟨wr.heap.size, 0, none⟩) (Nat.le_refl _) (.int .i64 x.f)) (p := ⟨wr.heap.size, 1, none⟩) (Nat.le_refl _) (.int .i64 c1.t)) (p := ⟨wr.heap.size, 2, none⟩) (Nat.le_refl _) (.int .i64 (c1.m + x.lo))
                rw [← hw9.out] at B5 EX ⊢
                go_wp2_with fail
                go_roundg (l.length - (k+1))
                case rel =>
                  have hcn : curS o l (k+1) = ⟨x.f, c1.t, c1.m + x.lo⟩ := by
                    rw [curS_succ o l k hlk, ← hx.out, ← hcc.out, stepS]
                    rw [stepT, if_pos E1.out, stepF, if_pos E2.out, hc1t.out, hc1m.out]
                  refine ⟨k+1, curS o l (k+1), by omega, rfl, by go_num, Lib.hid rfl, EX, ?_⟩
                  rw [hcn]
                  exact B5
                case measure => have := Hkk.out; omega

              · skip
                have he1 : (c.t == x.t) = true := by simp [e1]
                have E1 := Lib.hid e1
                clear e1
                have he2 : (c.f == x.t) = false := by simp [e2]
                have E2 := Lib.hid e2
                clear e2
                obtain ⟨rc5, rz5⟩ := (B5).rules; have rl5 := (B5).lt
                obtain ⟨rc7, rz7⟩ := (B7).rules; have rl7 := (B7).lt
                go_upto_region 14 with fail
                clear rc5 rz5 rl5 rc7 rz7 rl7
                obtain ⟨w8, hw8⟩ : ∃ w8, Hid (w8 = ((wy.setCell ⟨wr.heap.size, 0, none⟩ (.int .i64 c.f)).setCell ⟨wr.heap.size, 1, none⟩ (.int .i64 x.f)).setCell ⟨wr.heap.size, 2, none⟩ (.int .i64 (c.m - x.hi))) := ⟨_, rfl⟩
                have B5 := ((B5.set 0 (.int .i64 c.f)).set 1 (.int .i64 x.f)).set 2 (.int .i64 (c.m - x.hi))
                have B7 := ((B7.far (p := ⟨wr.heap.size, 0, none⟩) (by dsimp only; omega) (.int .i64 c.f)).far (p := ⟨wr.heap.size, 1, none⟩) (by dsimp only; omega) (.int .i64 x.f)).far (p := ⟨wr.heap.size, 2, none⟩) (by dsimp only; omega) (.int .i64 (c.m - x.hi))
                have EX := ext_set (ext_set (ext_set EX (p := ⟨wr.heap.size, 0, none⟩) (Nat.le_refl _) (.int .i64 c.f)) (p := ⟨wr.heap.size, 1, none⟩) (Nat.le_refl _) (.int .i64 x.f)) (p := ⟨wr.heap.size, 2, none⟩) (Nat.le_refl _) (.int .i64 (c.m - x.hi))
                rw [← hw8.out] at B5 B7 EX ⊢
                have hmb : -200 ≤ c.m - x.hi ∧ c.m - x.hi ≤ 200 := by omega
                obtain ⟨c1, hc1⟩ : ∃ c1 : Bd, Hid (c1 = ⟨c.f, x.f, c.m - x.hi⟩) := ⟨_, rfl⟩
                have hc1f : Hid (c1.f = c.f) := by rw [hc1.out]; exact Lib.hid rfl
                have hc1t : Hid (c1.t = x.f) := by rw [hc1.out]; exact Lib.hid rfl
                have hc1m : Hid (c1.m = c.m - x.hi) := by rw [hc1.out]; exact Lib.hid rfl
                have B5 : Box w8 wr.heap.size 48 #[.int .i64 c1.f, .int .i64 c1.t, .int .i64 c1.m] := by rw [hc1f.out, hc1t.out, hc1m.out]; exact B5
                have hmb : -200 ≤ c1.m ∧ c1.m ≤ 200 := by rw [hc1m.out]; exact hmb
                have he2 : (c1.f == x.t) = false := by rw [hc1f.out]; exact he2
                obtain ⟨rc5, rz5⟩ := (B5).rules; have rl5 := (B5).lt
                obtain ⟨rc7, rz7⟩ := (B7).rules; have rl7 := (B7).lt
                go_wp2_with fail
                go_roundg (l.length - (k+1))
                case rel =>
                  have hcn : curS o l (k+1) = c1 := by
                    rw [curS_succ o l k hlk, ← hx.out, ← hcc.out, stepS]
                    rw [stepT, if_pos E1.out, stepF, if_neg E2.out]; exact hc1.out.symm
                  refine ⟨k+1, curS o l (k+1), by omega, rfl, by go_num, Lib.hid rfl, EX, ?_⟩
                  rw [hcn]
                  exact B5
                case measure => have := Hkk.out; omega

            · by_cases e2 : c.f = x.t
              · skip
                have he1 : (c.t == x.t) = false := by simp [e1]
                have E1 := Lib.hid e1
                clear e1
                have he2 : (c.f == x.t) = true := by simp [e2]
                have E2 := Lib.hid e2
                clear e2
                obtain ⟨rc5, rz5⟩ := (B5).rules; have rl5 := (B5).lt
                obtain ⟨rc7, rz7⟩ := (B7).rules; have rl7 := (B7).lt
                go_upto_region 10 with fail
                clear rc5 rz5 rl5 rc7 rz7 rl7
                obtain ⟨w9, hw9⟩ : ∃ w9, Hid (w9 = ((wy.setCell ⟨wr.heap.size, 0, none⟩ (.int .i64 x.f)).setCell ⟨wr.heap.size, 1, none⟩ (.int .i64 c.t)).setCell ⟨wr.heap.size, 2, none⟩ (.int .i64 (c.m + x.lo))) := ⟨_, rfl⟩
                have B5 := ((B5.set 0 (.int .i64 x.f)).set 1 (.int .i64 c.t)).set 2 (.int .i64 (c.m + x.lo))
                have EX := ext_set (ext_set (ext_set EX (p := ⟨wr.heap.size, 0, none⟩) (Nat.le_refl _) (.int .i64 x.f)) (p := ⟨wr.heap.size, 1, none⟩) (Nat.le_refl _) (.int .i64 c.t)) (p := ⟨wr.heap.size, 2, none⟩) (Nat.le_refl _) (.int .i64 (c.m + x.lo))
                rw [← hw9.out] at B5 EX ⊢
                go_wp2_with fail
                go_roundg (l.length - (k+1))
                case rel =>
                  have hcn : curS o l (k+1) = ⟨x.f, c.t, c.m + x.lo⟩ := by
                    rw [curS_succ o l k hlk, ← hx.out, ← hcc.out, stepS]
                    rw [stepT, if_neg E1.out, stepF, if_pos E2.out]
                  refine ⟨k+1, curS o l (k+1), by omega, rfl, by go_num, Lib.hid rfl, EX, ?_⟩
                  rw [hcn]
                  exact B5
                case measure => have := Hkk.out; omega

              · skip
                have he1 : (c.t == x.t) = false := by simp [e1]
                have E1 := Lib.hid e1
                clear e1
                have he2 : (c.f == x.t) = false := by simp [e2]
                have E2 := Lib.hid e2
                clear e2
                obtain ⟨rc5, rz5⟩ := (B5).rules; have rl5 := (B5).lt
                obtain ⟨rc7, rz7⟩ := (B7).rules; have rl7 := (B7).lt
                go_wp2_with fail
                go_roundg (l.length - (k+1))
                case rel =>
                  have hcn : curS o l (k+1) = c := by
                    rw [curS_succ o l k hlk, ← hx.out, ← hcc.out, stepS]
                    rw [stepT, if_neg E1.out, stepF, if_neg E2.out]
                  refine ⟨k+1, curS o l (k+1), by omega, rfl, by go_num, Lib.hid rfl, EX, ?_⟩
                  rw [hcn]
                  exact B5
                case measure => have := Hkk.out; omega

          · have hkl : k = l.length := by omega
            have Hkl := Lib.hid hkl
            clear hkl
            have Row := Lib.hid (Roww.out.ext EX)
            have P3 := P3w.ext EX
            have EW := EWw.trans (EX.mono (by omega))
            obtain ⟨rc5, rz5⟩ := (B5).rules; have rl5 := (B5).lt
            obtain ⟨rc3, rz3⟩ := (P3).rules; have rl3 := (P3).lt
            obtain ⟨rc0, rz0⟩ := (A0).rules; have rl0 := (A0).lt
            go_wp2_with (at_builtin; refine wpl_appB _ rfl (.tmp 80) (.tmp 82) rfl W.heap.size 0 (.slice ao T.length co) T rfl (Row.out.alloc _) (.slice (some ⟨wx.heap.size, 0, none⟩) 1 1) [c] rfl ((Bds.lit wx c).base (Nat.zero_le _)) (by simp; omega) (by have := EW.size; simp; omega) ?_; intro v9 w9 hv9 hg9; obtain ⟨a9, c9, rfl, -⟩ := hv9.open; have P3 := (P3.alloc (.cells #[.int .i64 c.f, .int .i64 c.t, .int .i64 c.m] 48)).grown hg9 (own_not_box (Row.out.alloc (.cells #[.int .i64 c.f, .int .i64 c.t, .int .i64 c.m] 48)) (P3.alloc (.cells #[.int .i64 c.f, .int .i64 c.t, .int .i64 c.m] 48))); obtain ⟨rc9, rz9⟩ := P3.rules; have rl9 := P3.lt)
            go_roundg (p.bs.length - (i+1))
            case rel =>
              refine ⟨i+1, T ++ [c], _, by omega, rfl, by go_num, ?_, ?_, ?_, P3.set 1 _⟩
              · rw [map_take_succ l p.bs i hlt, ← ho.out, hTT.out]
                rw [strS, if_neg Hft.out, ← Hkl.out, ← hcc.out]
                exact Lib.hid rfl
              · have e9 : (T ++ [c]).length = T.length + 1 := by simp
                rw [e9] at hv9
                exact Lib.hid (hv9.far (grown_set (World.grownBy.refl _ _) _) (fun k hk e => own_not_box hv9 P3 (e.trans hk.symm)))
              · exact ((EW.alloc (by have := EW.size; omega) _).grown hg9 (by have := EW.size; simp; omega) (fun q hq => by have := (Row.out.lt q hq).1; omega)).setCell (p := ⟨w.heap.size + 1 + 1, 1, none⟩) (by dsimp only; omega) _
            case measure => have := Hki.out; omega
    · have hil : i = p.bs.length := by omega
      have hTe : Hid (T = p.bs.map (strS l)) := by rw [hTT.out, hil, List.take_length]; exact Lib.hid rfl
      have R1 : Box wr (w.heap.size + 1) _ _ := (EW.block (w.heap.size + 1) (by omega)).trans R1
      clear hil
      obtain ⟨rc1, rz1⟩ := (R1).rules; have rl1 := (R1).lt
      obtain ⟨rc3, rz3⟩ := (P3).rules; have rl3 := (P3).lt
      go_wp2_with fail
      refine bodyPost_ret (v := .agg #[.int .i64 p.pts, .slice ao T.length co]) (by simp [results, Try.results71, go_sem, *]) rfl ?_
      rw [← hTe.out]
      exact ⟨_, rfl, ((Row.out.low (by dsimp only; omega) _).low (by dsimp only; omega) _).base (by omega), ext_set (ext_set Ew (by simp) _) (by simp) _⟩
def strongOf (p : Pl) (l : List Pr) : Pl := ⟨p.pts, p.bs.map (strI l)⟩
def dealStrong (p : Pl) (l : List Pr) : Pl := if dealOk p l && (strongOf p l).ok then strongOf p l else Pl.zero
set_option maxRecDepth 100000 in
set_option maxHeartbeats 4000000 in
theorem impl_StrongPlan (p : Pl) (b v : Value) (l : List Pr) (w : World) (hb : Bds w 0 b p.bs) (hv : Prs w 0 v l) (hlb : p.bs.length ≤ 2000000) (hll : l.length ≤ 2000000) :
    Calls Try.prog 32 #[.agg #[.int .i64 p.pts, b, v]] w (RetPlanB w (dealStrong p l) (dealOk p l && (strongOf p l).ok)) := by
  have Hv := Lib.hid hv; have Hb := Lib.hid hb
  obtain ⟨a, cap, rfl, hn, hc, -⟩ := hv.open
  obtain ⟨ab, cb, rfl, -⟩ := hb.open
  clear hv hb
  go_enter Try.func32, Try.ntmps32
  go_wp2_with fail
  obtain ⟨W, hW, A0, R1, hs, E⟩ := two_boxes w #[.int .i64 p.pts, .slice ab p.bs.length cb, .slice a l.length cap] #[.int .i64 0, .slice none 0 0] 44 25
  rw [← hW.out]
  obtain ⟨rc0, rz0⟩ := (A0).rules; have rl0 := (A0).lt
  go_wp2_with fail
  refine (impl_DealOk p _ _ l _ (Hb.out.ext E) (Hv.out.ext E) hlb hll).mono ?_
  rintro e w1 ⟨rfl, hb1⟩
  have A0 := A0.ext hb1
  have R1 := R1.ext hb1
  have E := ext_trans E hb1
  clear rc0 rz0 rl0 hb1
  obtain ⟨rc0, rz0⟩ := (A0).rules; have rl0 := (A0).lt
  obtain ⟨rc1, rz1⟩ := (R1).rules; have rl1 := (R1).lt
  cases hd : dealOk p l
  · go_wp2_with fail
    refine bodyPost_ret (v := .tuple #[.agg #[.int .i64 0, .slice none 0 0], .bool false]) (by simp [results, Try.results32, go_sem, *]) rfl ?_
    rw [show dealStrong p l = Pl.zero from if_neg (by simp [hd])]
    exact ⟨_, by rw [hd]; rfl, Bds.nil _ _, ext_set (ext_set E (by simp) _) (by simp) _⟩
  · go_wp2_with fail
    obtain ⟨S, hS⟩ : ∃ S, Hid (S = strongOf p l) := ⟨_, rfl⟩
    refine ((show Calls Try.prog 69 #[.agg #[.int .i64 p.pts, .slice ab p.bs.length cb, .slice a l.length cap]] w1 (RetPlan w1 S) by rw [hS.out]; exact impl_own p _ _ l _ (Hb.out.ext E) (Hv.out.ext E) hd)).mono ?_
    rintro e w2 ⟨vo, rfl, hrow, hb2⟩
    obtain ⟨ao, co, rfl, -⟩ := hrow.open
    have Row := Lib.hid hrow
    have R1 := R1.ext hb2
    have E := ext_trans E hb2
    have Hd := Lib.hid hd
    have q9 := R1.lt
    have hl12 : S.bs.length ≤ 12 := by rw [hS.out]; simpa [strongOf] using (deal_use hd).2.1
    clear rc0 rz0 rl0 rc1 rz1 rl1 hb2 hrow hd
    go_wp2_with fail
    refine (impl_told S _ _ (Row.out.base (Nat.zero_le _)) (by omega)).mono ?_
    rintro e w3 ⟨vt, rfl, hrow, hb3⟩
    obtain ⟨at', ct, rfl, -⟩ := hrow.open
    have Row := Lib.hid hrow
    have R1 := R1.ext hb3
    have E3 := ext_trans E hb3
    have q2 := E.size
    have q3 := hb3.size
    have hs2 := R1.lt
    have hR1 := (R1.lt)
    clear hb3 hrow
    obtain ⟨rc1, rz1⟩ := (R1).rules; have rl1 := (R1).lt
    go_wp2_with fail
    refine bodyPost_ret (v := .tuple #[.agg #[.int .i64 S.told.pts, .slice at' S.told.bs.length ct], .bool S.ok]) (by simp [results, Try.results32, go_sem, *]) rfl ?_
    rw [show dealStrong p l = S.told by rw [dealStrong, Hd.out, hS.out]; rfl, ← hS.out]
    exact ⟨_, by rw [Hd.out]; rfl, ((Row.out.low (by dsimp only; omega) _).low (by dsimp only; omega) _).base (by omega), ext_set (ext_set E3 (by simp) _) (by simp) _⟩
theorem strongOf_S {p : Pl} {l : List Pr} (h : dealOk p l = true) : (⟨p.pts, p.bs.map (strS l)⟩ : Pl) = strongOf p l := by
  unfold strongOf
  rw [show strS l = strI l from funext fun o => (strong_eq h o).symm]
set_option maxRecDepth 100000 in
set_option maxHeartbeats 4000000 in
theorem spec_StrongPlan (p : Pl) (b v : Value) (l : List Pr) (w : World) (hb : Bds w 0 b p.bs) (hv : Prs w 0 v l) (hlb : p.bs.length ≤ 2000000) (hll : l.length ≤ 2000000) :
    Calls Try.prog 33 #[.agg #[.int .i64 p.pts, b, v]] w (RetPlanB w (dealStrong p l) (dealOk p l && (strongOf p l).ok)) := by
  have Hv := Lib.hid hv; have Hb := Lib.hid hb
  obtain ⟨a, cap, rfl, hn, hc, -⟩ := hv.open
  obtain ⟨ab, cb, rfl, -⟩ := hb.open
  clear hv hb
  go_enter Try.func33, Try.ntmps33
  go_wp2_with fail
  obtain ⟨W, hW, A0, R1, hs, E⟩ := two_boxes w #[.int .i64 p.pts, .slice ab p.bs.length cb, .slice a l.length cap] #[.int .i64 0, .slice none 0 0] 44 25
  rw [← hW.out]
  obtain ⟨rc0, rz0⟩ := (A0).rules; have rl0 := (A0).lt
  go_wp2_with fail
  refine (spec_DealOk p _ _ l _ (Hb.out.ext E) (Hv.out.ext E) hlb hll).mono ?_
  rintro e w1 ⟨rfl, hb1⟩
  have A0 := A0.ext hb1
  have R1 := R1.ext hb1
  have E := ext_trans E hb1
  clear rc0 rz0 rl0 hb1
  obtain ⟨rc0, rz0⟩ := (A0).rules; have rl0 := (A0).lt
  obtain ⟨rc1, rz1⟩ := (R1).rules; have rl1 := (R1).lt
  cases hd : dealOk p l
  · go_wp2_with fail
    refine bodyPost_ret (v := .tuple #[.agg #[.int .i64 0, .slice none 0 0], .bool false]) (by simp [results, Try.results33, go_sem, *]) rfl ?_
    rw [show dealStrong p l = Pl.zero from if_neg (by simp [hd])]
    exact ⟨_, by rw [hd]; rfl, Bds.nil _ _, ext_set (ext_set E (by simp) _) (by simp) _⟩
  · have Hd := Lib.hid hd
    clear hd
    go_wp2_with fail
    obtain ⟨S, hS⟩ : ∃ S, Hid (S = strongOf p l) := ⟨_, rfl⟩
    refine ((show Calls Try.prog 71 #[.agg #[.int .i64 p.pts, .slice ab p.bs.length cb, .slice a l.length cap]] w1 (RetPlan w1 S) by rw [hS.out, ← strongOf_S Hd.out]; exact spec_l8Strong p _ _ l _ (Hb.out.ext E) (Hv.out.ext E) Hd.out)).mono ?_
    rintro e w2 ⟨vo, rfl, hrow, hb2⟩
    obtain ⟨ao, co, rfl, -⟩ := hrow.open
    have Row := Lib.hid hrow
    have A0 := A0.ext hb2
    have R1 := R1.ext hb2
    have E := ext_trans E hb2
    clear rc0 rz0 rl0 rc1 rz1 rl1 hb2 hrow
    go_wp2_with fail
    refine (spec_PlanOk S _ _ (Row.out.base (Nat.zero_le _))).mono ?_
    rintro e w3 ⟨rfl, hb3⟩
    have A0 := A0.ext hb3
    have R1 := R1.ext hb3
    have E := ext_trans E hb3
    clear hb3 Row
    obtain ⟨rc0, rz0⟩ := (A0).rules; have rl0 := (A0).lt
    obtain ⟨rc1, rz1⟩ := (R1).rules; have rl1 := (R1).lt
    cases hk : S.ok
    · go_wp2_with fail
      refine bodyPost_ret (v := .tuple #[.agg #[.int .i64 0, .slice none 0 0], .bool false]) (by simp [results, Try.results33, go_sem, *]) rfl ?_
      rw [hS.out] at hk
      rw [show dealStrong p l = Pl.zero from if_neg (by simp [hk])]
      exact ⟨_, by rw [Hd.out, hk]; rfl, Bds.nil _ _, ext_set (ext_set E (by simp) _) (by simp) _⟩
    · have Hk := Lib.hid hk
      clear hk
      go_wp2_with fail
      refine ((show Calls Try.prog 71 #[.agg #[.int .i64 p.pts, .slice ab p.bs.length cb, .slice a l.length cap]] w3 (RetPlan w3 S) by rw [hS.out, ← strongOf_S Hd.out]; exact spec_l8Strong p _ _ l _ (Hb.out.ext E) (Hv.out.ext E) Hd.out)).mono ?_
      rintro e w4 ⟨vo, rfl, hrow, hb4⟩
      obtain ⟨ao, co, rfl, -⟩ := hrow.open
      have Row := Lib.hid hrow
      have R1 := R1.ext hb4
      have q3 := E.size
      have E4 := ext_trans E hb4
      have hR1 := rl1
      clear rc0 rz0 rl0 rc1 rz1 rl1 hb4 hrow
      obtain ⟨rc1, rz1⟩ := (R1).rules; have rl1 := (R1).lt
      go_wp2_with fail
      refine bodyPost_ret (v := .tuple #[.agg #[.int .i64 S.pts, .slice ao S.bs.length co], .bool true]) (by simp [results, Try.results33, go_sem, *]) rfl ?_
      have Hk2 := Hk.out
      rw [hS.out] at Hk2
      rw [show dealStrong p l = S by rw [dealStrong, Hd.out, Hk2, hS.out]; rfl, Hd.out, Hk2]
      exact ⟨_, rfl, ((Row.out.low (by dsimp only; omega) _).low (by dsimp only; omega) _).base (by omega), ext_set (ext_set E4 (by simp) _) (by simp) _⟩
end Go.Proofs.Ytlcmhcfnmohgmaa
