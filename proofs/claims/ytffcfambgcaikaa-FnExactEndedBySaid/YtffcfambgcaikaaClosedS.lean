/- The walk of spec.l2Closed: the closed table of a plan. Conditions: the bounds can be read and lie between at most 6 points. -/
import Derived.Test.YtffcfambgcaikaaTabS
namespace Go.Proofs.Ytffcfambgcaikaa
open Go.RowKit
set_option linter.unusedVariables false
set_option linter.unusedSimpArgs false
set_option maxRecDepth 100000 in
set_option maxHeartbeats 8000000 in
theorem spec_l2Closed (n : Nat) (v : Value) (bs : List Bd) (w : World) (hv : Bds w 0 v bs) (hn : n ≤ 6) (hin : BdsIn n (-2000) 2000 bs) (hlen : bs.length ≤ 40) :
    Calls Try.prog 81 #[.agg #[.int .i64 n, v]] w fun e w' => ∃ v hs, e = .returned v ∧ TabG w' w.heap.size n n v hs (upT (tab0 bs) n) ∧ Below w.heap.size w w' := by
  have V := Lib.hid hv
  have Hin := Lib.hid hin
  have hup : Hid (∀ k, k ≤ n → ∀ i j, i < n → j < n → -128000 ≤ upT (tab0 bs) k i j ∧ upT (tab0 bs) k i j ≤ 100000) := fun k hk i j hi hj =>
    ⟨by have := up_low6 hn (l := -2000) (by decide) (fun i j _ _ => (tab0_in hin (by decide) i j).1) k hk i j hi hj; exact this, up_far (fun i j _ _ => tab0_le bs i j) k i j hi hj⟩
  obtain ⟨av, cv, rfl, hcv, hcv2, -⟩ := hv.open
  clear hv hin
  go_enter Try.func81, Try.ntmps81
  go_wp2_with fail
  obtain ⟨W, hW, A0, hs, E⟩ := one_box w #[.int .i64 n, .slice av bs.length cv] 25
  rw [← hW.out]
  refine (spec_l2Table n _ bs _ (V.out.ext E) hn Hin.out hlen).mono ?_
  rintro e w1 ⟨vt, ht, rfl, hG, hb1⟩
  have A0 := A0.ext hb1
  have E := ext_trans E hb1
  have G : Hid (TabG w1 w.heap.size n n vt ht (upT (tab0 bs) 0)) := Lib.hid (hG.base (by omega))
  clear hb1 hG
  go_wp2_with fail
  go_loopg [3, 4] n (fun m vo kk wr => ∃ (k : Nat) (hd : List Value), k ≤ n ∧ m = n - k ∧ kk = .int .i64 k ∧ Hid (TabG wr w.heap.size n n vo hd (upT (tab0 bs) k)) ∧ Box wr w.heap.size 25 #[.int .i64 n, .slice av bs.length cv] ∧ Below w.heap.size w wr)
  case atStart => exact ⟨0, ht, by omega, by omega, rfl, G, A0, E⟩
  case round =>
    clear G A0 E
    obtain ⟨k, hd, hk, hgk, rfl, G, A0, E⟩ := hrel
    have Hk := Lib.hid hgk
    clear hgk
    obtain ⟨an, cn, rfl, hcn, hcn2⟩ := G.out.open
    obtain ⟨rc0, rz0⟩ := (A0).rules; have rl0 := (A0).lt
    by_cases hlk : k < n
    · go_wp2_with fail
      obtain ⟨W2, hW2, T2, hs2, E2⟩ := one_box wr #[] 41
      rw [← hW2.out]
      have N : Hid (TabG W2 wr.heap.size n 0 (.slice (some ⟨wr.heap.size, 0, none⟩) 0 0) [] (upT (tab0 bs) (k+1))) := TabG.nil T2 (Nat.le_refl _)
      clear T2 rc0 rz0 rl0
      go_loopg [5, 6] n (fun m vo ii wx => ∃ (i : Nat) (hd2 : List Value), i ≤ n ∧ m = n - i ∧ ii = .int .i64 i ∧ Hid (TabG wx wr.heap.size n i vo hd2 (upT (tab0 bs) (k+1))) ∧ Below wr.heap.size wr wx)
      case atStart => exact ⟨0, [], by omega, by omega, rfl, N, E2⟩
      case round =>
        clear N E2
        rename World => wx
        obtain ⟨i, hd2, hi, hgk, rfl, N, hbx⟩ := hrel
        have Hi := Lib.hid hgk
        clear hgk
        obtain ⟨ao, co, rfl, hco, hco2⟩ := N.out.open
        have A1 := A0.ext hbx
        obtain ⟨rc1, rz1⟩ := (A1).rules; have rl1 := (A1).lt
        by_cases hli : i < n
        · go_wp2_with fail
          obtain ⟨W3, hW3, T3, hs3, E3⟩ := one_box wx #[] 3
          rw [← hW3.out]
          have R : Hid (Ints W3 wx.heap.size (.slice (some ⟨wx.heap.size, 0, none⟩) 0 0) (rowOf 0 (upT (tab0 bs) (k+1) i))) := Lib.hid (Ints.ofBox T3 (Nat.le_refl _))
          clear T3 rc1 rz1 rl1
          go_loopg [7, 8] n (fun m vo jj wy => ∃ j : Nat, j ≤ n ∧ m = n - j ∧ jj = .int .i64 j ∧ Hid (Ints wy wx.heap.size vo (rowOf j (upT (tab0 bs) (k+1) i))) ∧ Below wx.heap.size wx wy ∧ wx.heap.size + 1 ≤ wy.heap.size)
          case atStart => exact ⟨0, by omega, by omega, rfl, R, E3, hs3⟩
          case round =>
            clear R E3
            rename World => wy
            obtain ⟨j, hj, hgk, rfl, R, hb, hsx⟩ := hrel
            have Hj := Lib.hid hgk
            clear hgk
            obtain ⟨ar, cr, har, hcr, hcr2, -⟩ := R.out.open
            rw [rowOf_length] at har hcr
            subst har
            have hbw := ext_trans hbx hb
            have A2 := A0.ext hbw
            obtain ⟨rc2, rz2⟩ := (A2).rules; have rl2 := (A2).lt
            by_cases hlj : j < n
            · have Gy := Lib.hid (G.out.ext hbw)
              obtain ⟨g, ai, ci, hag, _, hg, _, hOi, hci, hci2, hri⟩ := Gy.out.head hli
              subst hag
              obtain ⟨_, ak, ck, hag, _, _, _, hOk, hck, hck2, hrk⟩ := Gy.out.head hlk
              cases hag
              have hln : (rowOf n (upT (tab0 bs) k i)).length = n := rowOf_length _ _
              have hln2 : (rowOf n (upT (tab0 bs) k k)).length = n := rowOf_length _ _
              obtain ⟨gi, hai, _, hgi, _, cz⟩ := hri.at_ (j := j) (by omega)
              subst hai
              obtain ⟨_, hai, _, _, _, cx⟩ := hri.at_ (j := k) (by omega)
              cases hai
              obtain ⟨gk, hak, _, hgk, _, cy⟩ := hrk.at_ (j := j) (by omega)
              subst hak
              rw [rowOf_getD _ _ _ hlj] at cz cy
              rw [rowOf_getD _ _ _ hlk] at cx
              have hx := hup.out k hk i k hli hlk
              have hy := hup.out k hk k j hlk hlj
              have hz := hup.out k hk i j hli hlj
              obtain ⟨x, Hx⟩ : ∃ x, Hid (x = upT (tab0 bs) k i k) := ⟨_, rfl⟩
              obtain ⟨y, Hy⟩ : ∃ x, Hid (x = upT (tab0 bs) k k j) := ⟨_, rfl⟩
              obtain ⟨z, Hz⟩ : ∃ x, Hid (x = upT (tab0 bs) k i j) := ⟨_, rfl⟩
              have hnext : Hid (upT (tab0 bs) (k+1) i j = if x < 100000 ∧ y < 100000 then min z (x + y) else z) := by rw [Hx.out, Hy.out, Hz.out]; exact Lib.hid rfl
              rw [← Hx.out] at cx hx
              rw [← Hy.out] at cy hy
              rw [← Hz.out] at cz hz
              clear hln hln2 hri hrk
              have hw : IntKind.i64.wrap (x + y) = x + y := IntWalk.i64_in _ (by omega)
              by_cases hxf : x < 100000
              · by_cases hyf : y < 100000
                · by_cases hxm : z ≤ x + y
                  · go_wp2_with fail
                    go_quiet (fail)
                    rename_i nq
                    obtain ⟨d, hd⟩ : ∃ d, Hid (d = wy.drewN nq) := ⟨_, rfl⟩
                    have Ed : Below wy.heap.size wy d := by rw [hd.out]; exact ⟨rfl, rfl, rfl, Nat.le_refl _, fun _ _ => rfl⟩
                    rw [← hd.out]
                    have hbd := ext_trans hb Ed
                    have Rd := Lib.hid (R.out.ext Ed)
                    go_wp2_with (at_builtin; refine wpl_appI _ rfl (.tmp 74) (.tmp 76) rfl wx.heap.size 0 (.slice ar j cr) (rowOf j (upT (tab0 bs) (k+1) i)) rfl (Rd.out.alloc _) (.slice (some ⟨d.heap.size, 0, none⟩) 1 1) [z] rfl ((Ints.lit d (z)).base (Nat.zero_le _)) (by rw [rowOf_length]; simp; omega) (by have := hbd.size; simp; omega) ?_; intro v9 w9 hv9 hg9)
                    have hb9 := ext_grown (ext_alloc hbd _) hg9 (fun q hq => (R.out.lt q hq).1)
                    have hs9 := hg9.size
                    have hs8 := hbd.size
                    rw [show (z : Int) = upT (tab0 bs) (k+1) i j by rw [hnext.out]; rw [if_pos ⟨hxf, hyf⟩, Int.min_eq_left hxm], ← rowOf_snoc] at hv9
                    go_roundg (n - (j+1))
                    case rel => exact ⟨j+1, by omega, rfl, by go_num, Lib.hid hv9, hb9, by simp at hs9; omega⟩
                    case measure => have := Hj.out; omega
                  · go_wp2_with fail
                    go_quiet (fail)
                    rename_i nq
                    obtain ⟨d, hd⟩ : ∃ d, Hid (d = wy.drewN nq) := ⟨_, rfl⟩
                    have Ed : Below wy.heap.size wy d := by rw [hd.out]; exact ⟨rfl, rfl, rfl, Nat.le_refl _, fun _ _ => rfl⟩
                    rw [← hd.out]
                    have hbd := ext_trans hb Ed
                    have Rd := Lib.hid (R.out.ext Ed)
                    go_wp2_with (at_builtin; refine wpl_appI _ rfl (.tmp 74) (.tmp 76) rfl wx.heap.size 0 (.slice ar j cr) (rowOf j (upT (tab0 bs) (k+1) i)) rfl (Rd.out.alloc _) (.slice (some ⟨d.heap.size, 0, none⟩) 1 1) [x + y] rfl ((Ints.lit d (x + y)).base (Nat.zero_le _)) (by rw [rowOf_length]; simp; omega) (by have := hbd.size; simp; omega) ?_; intro v9 w9 hv9 hg9)
                    have hb9 := ext_grown (ext_alloc hbd _) hg9 (fun q hq => (R.out.lt q hq).1)
                    have hs9 := hg9.size
                    have hs8 := hbd.size
                    rw [show (x + y : Int) = upT (tab0 bs) (k+1) i j by rw [hnext.out]; rw [if_pos ⟨hxf, hyf⟩, Int.min_eq_right (by omega)], ← rowOf_snoc] at hv9
                    go_roundg (n - (j+1))
                    case rel => exact ⟨j+1, by omega, rfl, by go_num, Lib.hid hv9, hb9, by simp at hs9; omega⟩
                    case measure => have := Hj.out; omega
                · go_wp2_with (at_builtin; refine wpl_appI _ rfl (.tmp 74) (.tmp 76) rfl wx.heap.size 0 (.slice ar j cr) (rowOf j (upT (tab0 bs) (k+1) i)) rfl (R.out.alloc _) (.slice (some ⟨wy.heap.size, 0, none⟩) 1 1) [z] rfl ((Ints.lit wy (z)).base (Nat.zero_le _)) (by rw [rowOf_length]; simp; omega) (by have := hb.size; simp; omega) ?_; intro v9 w9 hv9 hg9)
                  have hb9 := ext_grown (ext_alloc hb _) hg9 (fun q hq => (R.out.lt q hq).1)
                  have hs9 := hg9.size
                  have hs8 := hb.size
                  rw [show (z : Int) = upT (tab0 bs) (k+1) i j by rw [hnext.out]; rw [if_neg (by omega)], ← rowOf_snoc] at hv9
                  go_roundg (n - (j+1))
                  case rel => exact ⟨j+1, by omega, rfl, by go_num, Lib.hid hv9, hb9, by simp at hs9; omega⟩
                  case measure => have := Hj.out; omega
              · go_wp2_with (at_builtin; refine wpl_appI _ rfl (.tmp 74) (.tmp 76) rfl wx.heap.size 0 (.slice ar j cr) (rowOf j (upT (tab0 bs) (k+1) i)) rfl (R.out.alloc _) (.slice (some ⟨wy.heap.size, 0, none⟩) 1 1) [z] rfl ((Ints.lit wy (z)).base (Nat.zero_le _)) (by rw [rowOf_length]; simp; omega) (by have := hb.size; simp; omega) ?_; intro v9 w9 hv9 hg9)
                have hb9 := ext_grown (ext_alloc hb _) hg9 (fun q hq => (R.out.lt q hq).1)
                have hs9 := hg9.size
                have hs8 := hb.size
                rw [show (z : Int) = upT (tab0 bs) (k+1) i j by rw [hnext.out]; rw [if_neg (by omega)], ← rowOf_snoc] at hv9
                go_roundg (n - (j+1))
                case rel => exact ⟨j+1, by omega, rfl, by go_num, Lib.hid hv9, hb9, by simp at hs9; omega⟩
                case measure => have := Hj.out; omega
            · have hjn : n = j := by omega
              subst hjn
              have N1 := Lib.hid (N.out.ext hb)
              have q1 := hb.size
              have q2 := hbx.size
              go_wp2_with (at_builtin; refine wpl_appT _ rfl (.tmp 78) (.tmp 80) rfl wr.heap.size n i (.slice ao i co) (.slice ar n cr) hd2 (upT (tab0 bs) (k+1)) (upT (tab0 bs) (k+1) i) wy.heap.size rfl (N1.out.ext (ext_alloc (ext_refl _) _)) rfl (own_base (heads_lit wy _) (Nat.zero_le _)) rfl ((R.out.base (by omega)).alloc _) (by omega) (by simp; omega) ?_; intro v9 w9 hv9 hg9)
              have hE9 : Below wr.heap.size wr w9 := ext_grown (ext_alloc hbw _) hg9 (fun q hq => (own_lt N1.out.o q hq).1)
              go_roundg (n - (i+1))
              case rel =>
                refine ⟨i+1, _, by omega, rfl, by go_num, Lib.hid (hv9.congr (fun a c _ _ => ?_)), hE9⟩
                split
                · rename_i h; rw [h]
                · rfl
              case measure => have := Hi.out; omega
        · have hin : n = i := by omega
          subst hin
          have q := E.size
          go_wp2_with fail
          go_roundg (n - (k+1))
          case rel => exact ⟨k+1, hd2, by omega, rfl, by go_num, Lib.hid (N.out.base (by omega)), A1, ext_trans E hbx⟩
          case measure => have := Hk.out; omega
    · have hkn : n = k := by omega
      subst hkn
      go_wp2_with fail
      go_ret
      exact ⟨_, hd, rfl, G.out, E⟩
end Go.Proofs.Ytffcfambgcaikaa
