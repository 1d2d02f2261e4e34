/- The walk of spec.l2Table: the table of a plan, made row by row. Conditions: the bounds can be read; the plan is one. -/
import Derived.Test.YtffcfambgcaikaaTabPlan
import Derived.Test.YtffcfambgcaikaaTabG
import Derived.Deep.Cut
namespace Go.Proofs.Ytffcfambgcaikaa
open Go.RowKit
set_option linter.unusedVariables false
set_option linter.unusedSimpArgs false
set_option maxRecDepth 100000 in
set_option maxHeartbeats 8000000 in
theorem spec_l2Table (n : Nat) (v : Value) (bs : List Bd) (w : World) (hv : Bds w 0 v bs) (hn : n ≤ 6) (hin : BdsIn n (-2000) 2000 bs) (hlen : bs.length ≤ 40) :
    Calls Try.prog 96 #[.agg #[.int .i64 n, v]] w fun e w' => ∃ v hs, e = .returned v ∧ TabG w' w.heap.size n n v hs (tab0 bs) ∧ Below w.heap.size w w' := by
  have V := Lib.hid hv
  have Hin := Lib.hid hin
  obtain ⟨av, cv, rfl, hcv, hcv2, -⟩ := hv.open
  clear hv hin
  go_enter Try.func96, Try.ntmps96
  go_wp2_with fail
  obtain ⟨W, hW, A0, T0, hs, E⟩ := two_boxes w #[.int .i64 n, .slice av bs.length cv] #[] 25 41
  rw [← hW.out]
  have G : Hid (TabG W (w.heap.size + 1) n 0 (.slice (some ⟨w.heap.size + 1, 0, none⟩) 0 0) [] (tab0 bs)) := TabG.nil T0 (Nat.le_refl _)
  clear T0
  go_loopg [3, 4] n (fun m vo ii wr => ∃ (i : Nat) (hd : List Value), i ≤ n ∧ m = n - i ∧ ii = .int .i64 i ∧ Hid (TabG wr (w.heap.size + 1) n i vo hd (tab0 bs)) ∧ Box wr w.heap.size 25 #[.int .i64 n, .slice av bs.length cv] ∧ Below w.heap.size w wr ∧ w.heap.size + 1 ≤ wr.heap.size)
  case atStart => exact ⟨0, [], by omega, by omega, rfl, G, A0, E, by omega⟩
  case round =>
    clear G A0 E
    obtain ⟨i, hd, hi, hgk, rfl, G, A0, E, hsz⟩ := hrel
    have Hi := Lib.hid hgk
    clear hgk
    obtain ⟨ao, co, rfl, hco, hco2⟩ := G.out.open
    obtain ⟨rc0, rz0⟩ := (A0).rules; have rl0 := (A0).lt
    by_cases hli : i < n
    · go_wp2_with fail
      obtain ⟨W2, hW2, T2, hs2, E2⟩ := one_box wr #[] 3
      rw [← hW2.out]
      have R := Lib.hid (Ints.ofBox T2 (Nat.le_refl _))
      have R : Hid (Ints W2 wr.heap.size (.slice (some ⟨wr.heap.size, 0, none⟩) 0 0) (rowOf 0 (tab0 bs i))) := R
      have A1 := A0.ext E2
      clear T2 rc0 rz0 rl0
      go_loopg [5, 6] n (fun m vo jj wx => ∃ j : Nat, j ≤ n ∧ m = n - j ∧ jj = .int .i64 j ∧ Hid (Ints wx wr.heap.size vo (rowOf j (tab0 bs i))) ∧ Below wr.heap.size wr wx ∧ wr.heap.size + 1 ≤ wx.heap.size)
      case atStart => exact ⟨0, by omega, by omega, rfl, R, E2, hs2⟩
      case round =>
        clear R A1 E2
        rename World => wx
        obtain ⟨j, hj, hgk, rfl, R, hb, hsx⟩ := hrel
        have Hj := Lib.hid hgk
        clear hgk
        obtain ⟨ar, cr, har, hcr, hcr2, -⟩ := R.out.open
        rw [rowOf_length] at har hcr
        subst har
        have A1 := A0.ext hb
        obtain ⟨rc1, rz1⟩ := (A1).rules; have rl1 := (A1).lt
        by_cases hlj : j < n
        · have hEx := ext_trans E hb
          by_cases hij : i = j
          · have he : ((i : Int) == (j : Int)) = true := by simp [hij]
            have hz0 : Hid ((0 : Int) = tab0 (bs.take 0) i j) := by rw [List.take_zero, tab0_nil, if_pos hij]; exact Lib.hid rfl
            have Hij := Lib.hid hij
            clear hij
            go_wp2_with fail
            go_loopg [7, 8] bs.length (fun m zz kk wy => ∃ k : Nat, k ≤ bs.length ∧ m = bs.length - k ∧ kk = .int .i64 k ∧ zz = .int .i64 (tab0 (bs.take k) i j) ∧ wy = wx)
            case atStart => exact ⟨0, by omega, by omega, rfl, by rw [← hz0.out], rfl⟩
            case round =>
              rename World => wy
              obtain ⟨k, hk, hgk, rfl, rfl, hwy⟩ := hrel
              subst hwy
              have Hk := Lib.hid hgk
              clear hgk
              obtain ⟨x, Hx⟩ : ∃ x, Hid (x = tab0 (bs.take k) i j) := ⟨_, rfl⟩
              rw [← Hx.out]
              by_cases hlk : k < bs.length
              · obtain ⟨g, hag, _, hg, _, c0, c1, c2⟩ := (V.out.ext hEx).at_ hlk
                subst hag
                obtain ⟨⟨f, hf, hfn⟩, ⟨t, ht, htn⟩, hm1, hm2⟩ := Hin.out k hlk
                have Hf := Lib.hid hf; have Ht := Lib.hid ht
                rw [hf] at c0
                rw [ht] at c1
                obtain ⟨m, Hm⟩ : ∃ m, Hid (m = (bs.getD k Bd.z).m) := ⟨_, rfl⟩
                rw [← Hm.out] at c2 hm1 hm2
                clear hf ht
                have hnext : Hid (tab0 (bs.take (k+1)) i j = if f = i ∧ t = j then min x m else x) := by
                  rw [tab0_take bs k hlk, Hf.out, Ht.out, ← Hm.out, ← Hx.out]
                  by_cases h1 : f = i ∧ t = j
                  · rw [if_pos h1, if_pos (by omega)]; exact Lib.hid rfl
                  · rw [if_neg h1, if_neg (by omega)]; exact Lib.hid rfl
                by_cases hfi : f = i
                · have hfe : ((f : Int) == (i : Int)) = true := by simp [hfi]
                  by_cases htj : t = j
                  · have hte : ((t : Int) == (j : Int)) = true := by simp [htj]
                    have hnext2 : Hid (tab0 (bs.take (k+1)) i j = min x m) := by rw [hnext.out, if_pos ⟨hfi, htj⟩]; exact Lib.hid rfl
                    have Hfi := Lib.hid hfi; have Htj := Lib.hid htj
                    clear hfi htj
                    by_cases hxm : x ≤ m
                    · go_wp2_with fail
                      go_roundg (bs.length - (k+1))
                      case rel => exact ⟨k+1, by omega, rfl, by go_num, by rw [hnext2.out, Int.min_eq_left hxm], rfl⟩
                      case measure => have := Hk.out; omega
                    · go_wp2_with fail
                      go_roundg (bs.length - (k+1))
                      case rel => exact ⟨k+1, by omega, rfl, by go_num, by rw [hnext2.out, Int.min_eq_right (by omega)], rfl⟩
                      case measure => have := Hk.out; omega
                  · have hte : ((t : Int) == (j : Int)) = false := beq_false_of_ne (by omega)
                    have hnext2 : Hid (tab0 (bs.take (k+1)) i j = x) := by rw [hnext.out, if_neg (fun h => htj h.2)]; exact Lib.hid rfl
                    have Hfi := Lib.hid hfi; have Htj := Lib.hid htj
                    clear hfi htj
                    go_wp2_with fail
                    go_roundg (bs.length - (k+1))
                    case rel => exact ⟨k+1, by omega, rfl, by go_num, by rw [hnext2.out], rfl⟩
                    case measure => have := Hk.out; omega
                · have hfe : ((f : Int) == (i : Int)) = false := beq_false_of_ne (by omega)
                  have hnext2 : Hid (tab0 (bs.take (k+1)) i j = x) := by rw [hnext.out, if_neg (fun h => hfi h.1)]; exact Lib.hid rfl
                  have Hfi := Lib.hid hfi
                  clear hfi
                  go_wp2_with fail
                  go_roundg (bs.length - (k+1))
                  case rel => exact ⟨k+1, by omega, rfl, by go_num, by rw [hnext2.out], rfl⟩
                  case measure => have := Hk.out; omega
              · have hkn : k = bs.length := by omega
                subst hkn
                rw [List.take_length] at Hx
                go_wp2_with (at_builtin; refine wpl_appI _ rfl (.tmp 59) (.tmp 61) rfl wr.heap.size 0 (.slice ar j cr) (rowOf j (tab0 bs i)) rfl (R.out.alloc _) (.slice (some ⟨wy.heap.size, 0, none⟩) 1 1) [x] rfl ((Ints.lit wy x).base (Nat.zero_le _)) (by rw [rowOf_length]; simp; omega) (by simp; omega) ?_; intro v9 w9 hv9 hg9)
                have hb9 := ext_grown (ext_alloc hb _) hg9 (fun q hq => (R.out.lt q hq).1)
                have hs9 := hg9.size
                rw [Hx.out, ← rowOf_snoc] at hv9
                go_roundg (n - (j+1))
                case rel => exact ⟨j+1, by omega, rfl, by go_num, Lib.hid hv9, hb9, by simp at hs9; omega⟩
                case measure => have := Hj.out; omega
          · have he : ((i : Int) == (j : Int)) = false := beq_false_of_ne (by omega)
            have hz0 : Hid ((100000 : Int) = tab0 (bs.take 0) i j) := by rw [List.take_zero, tab0_nil, if_neg hij]; exact Lib.hid rfl
            have Hij := Lib.hid hij
            clear hij
            go_wp2_with fail
            go_loopg [7, 8] bs.length (fun m zz kk wy => ∃ k : Nat, k ≤ bs.length ∧ m = bs.length - k ∧ kk = .int .i64 k ∧ zz = .int .i64 (tab0 (bs.take k) i j) ∧ wy = wx)
            case atStart => exact ⟨0, by omega, by omega, rfl, by rw [← hz0.out], rfl⟩
            case round =>
              rename World => wy
              obtain ⟨k, hk, hgk, rfl, rfl, hwy⟩ := hrel
              subst hwy
              have Hk := Lib.hid hgk
              clear hgk
              obtain ⟨x, Hx⟩ : ∃ x, Hid (x = tab0 (bs.take k) i j) := ⟨_, rfl⟩
              rw [← Hx.out]
              by_cases hlk : k < bs.length
              · obtain ⟨g, hag, _, hg, _, c0, c1, c2⟩ := (V.out.ext hEx).at_ hlk
                subst hag
                obtain ⟨⟨f, hf, hfn⟩, ⟨t, ht, htn⟩, hm1, hm2⟩ := Hin.out k hlk
                have Hf := Lib.hid hf; have Ht := Lib.hid ht
                rw [hf] at c0
                rw [ht] at c1
                obtain ⟨m, Hm⟩ : ∃ m, Hid (m = (bs.getD k Bd.z).m) := ⟨_, rfl⟩
                rw [← Hm.out] at c2 hm1 hm2
                clear hf ht
                have hnext : Hid (tab0 (bs.take (k+1)) i j = if f = i ∧ t = j then min x m else x) := by
                  rw [tab0_take bs k hlk, Hf.out, Ht.out, ← Hm.out, ← Hx.out]
                  by_cases h1 : f = i ∧ t = j
                  · rw [if_pos h1, if_pos (by omega)]; exact Lib.hid rfl
                  · rw [if_neg h1, if_neg (by omega)]; exact Lib.hid rfl
                by_cases hfi : f = i
                · have hfe : ((f : Int) == (i : Int)) = true := by simp [hfi]
                  by_cases htj : t = j
                  · have hte : ((t : Int) == (j : Int)) = true := by simp [htj]
                    have hnext2 : Hid (tab0 (bs.take (k+1)) i j = min x m) := by rw [hnext.out, if_pos ⟨hfi, htj⟩]; exact Lib.hid rfl
                    have Hfi := Lib.hid hfi; have Htj := Lib.hid htj
                    clear hfi htj
                    by_cases hxm : x ≤ m
                    · go_wp2_with fail
                      go_roundg (bs.length - (k+1))
                      case rel => exact ⟨k+1, by omega, rfl, by go_num, by rw [hnext2.out, Int.min_eq_left hxm], rfl⟩
                      case measure => have := Hk.out; omega
                    · go_wp2_with fail
                      go_roundg (bs.length - (k+1))
                      case rel => exact ⟨k+1, by omega, rfl, by go_num, by rw [hnext2.out, Int.min_eq_right (by omega)], rfl⟩
                      case measure => have := Hk.out; omega
                  · have hte : ((t : Int) == (j : Int)) = false := beq_false_of_ne (by omega)
                    have hnext2 : Hid (tab0 (bs.take (k+1)) i j = x) := by rw [hnext.out, if_neg (fun h => htj h.2)]; exact Lib.hid rfl
                    have Hfi := Lib.hid hfi; have Htj := Lib.hid htj
                    clear hfi htj
                    go_wp2_with fail
                    go_roundg (bs.length - (k+1))
                    case rel => exact ⟨k+1, by omega, rfl, by go_num, by rw [hnext2.out], rfl⟩
                    case measure => have := Hk.out; omega
                · have hfe : ((f : Int) == (i : Int)) = false := beq_false_of_ne (by omega)
                  have hnext2 : Hid (tab0 (bs.take (k+1)) i j = x) := by rw [hnext.out, if_neg (fun h => hfi h.1)]; exact Lib.hid rfl
                  have Hfi := Lib.hid hfi
                  clear hfi
                  go_wp2_with fail
                  go_roundg (bs.length - (k+1))
                  case rel => exact ⟨k+1, by omega, rfl, by go_num, by rw [hnext2.out], rfl⟩
                  case measure => have := Hk.out; omega
              · have hkn : k = bs.length := by omega
                subst hkn
                rw [List.take_length] at Hx
                go_wp2_with (at_builtin; refine wpl_appI _ rfl (.tmp 59) (.tmp 61) rfl wr.heap.size 0 (.slice ar j cr) (rowOf j (tab0 bs i)) rfl (R.out.alloc _) (.slice (some ⟨wy.heap.size, 0, none⟩) 1 1) [x] rfl ((Ints.lit wy x).base (Nat.zero_le _)) (by rw [rowOf_length]; simp; omega) (by simp; omega) ?_; intro v9 w9 hv9 hg9)
                have hb9 := ext_grown (ext_alloc hb _) hg9 (fun q hq => (R.out.lt q hq).1)
                have hs9 := hg9.size
                rw [Hx.out, ← rowOf_snoc] at hv9
                go_roundg (n - (j+1))
                case rel => exact ⟨j+1, by omega, rfl, by go_num, Lib.hid hv9, hb9, by simp at hs9; omega⟩
                case measure => have := Hj.out; omega
        · have hjn : n = j := by omega
          subst hjn
          have G1 := Lib.hid (G.out.ext hb)
          have q1 := hb.size
          go_wp2_with (at_builtin; refine wpl_appT _ rfl (.tmp 63) (.tmp 65) rfl (w.heap.size + 1) n i (.slice ao i co) (.slice ar n cr) hd (tab0 bs) (tab0 bs i) wx.heap.size rfl (G1.out.ext (ext_alloc (ext_refl _) _)) rfl (own_base (heads_lit wx _) (Nat.zero_le _)) rfl ((R.out.base (by omega)).alloc _) (by omega) (by simp; omega) ?_; intro v9 w9 hv9 hg9)
          have E9 : Below wr.heap.size wr w9 ∨ True := .inr trivial
          have hE9 : Below w.heap.size w w9 := ext_grown (ext_alloc (ext_trans E hb) _) hg9 (fun q hq => by have := (own_lt G1.out.o q hq).1; omega)
          have hs9 := hg9.size
          have A9 := (A1.alloc (.cells #[.slice ar n cr] 41)).grown hg9 (fun e => by have := (own_lt G1.out.o _ e.symm).1; omega)
          go_roundg (n - (i+1))
          case rel =>
            refine ⟨i+1, _, by omega, rfl, by go_num, Lib.hid (hv9.congr (fun a c _ _ => ?_)), A9, hE9, by simp at hs9; omega⟩
            split
            · rename_i h; rw [h]
            · rfl
          case measure => have := Hi.out; omega
    · have hin : n = i := by omega
      subst hin
      go_wp2_with fail
      go_ret
      exact ⟨_, hd, rfl, G.out.base (by omega), E⟩
end Go.Proofs.Ytffcfambgcaikaa
