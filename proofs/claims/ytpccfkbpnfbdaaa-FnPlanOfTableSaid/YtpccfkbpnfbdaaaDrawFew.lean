/- The draw of a plan of few points. No condition but that the reader can be read. -/
import Derived.Test.YtpccfkbpnfbdaaaDrawPlan
import Derived.Test.YtpccfkbpnfbdaaaApp
import Derived.Deep.Cut
namespace Go.Proofs.Ytpccfkbpnfbdaaa
open Go.RowKit
set_option linter.unusedVariables false
set_option linter.unusedSimpArgs false
set_option maxRecDepth 100000 in
set_option maxHeartbeats 4000000 in
theorem spec_l20Few (B g m : Nat) (n : Int) (w : World) (h : Rd w B g m) (hm : m ≤ 90000) (hn : 0 ≤ n) :
    Calls Try.prog 57 #[.pointer (some ⟨g, 0, none⟩), .int .i64 n] w fun e w' => ∃ (bs : Value) (p : Pl), e = .returned (.agg #[.int .i64 p.pts, bs]) ∧ Bds w' w.heap.size bs p.bs ∧ p.bs.length ≤ 10 ∧ 0 ≤ p.pts ∧ p.pts ≤ 7 ∧ Rd w' B g (m+201) ∧ w.grownBy w' (some g) := by
  have R := Lib.hid h
  have hgl := h.lt
  clear h
  go_enter Try.func57, Try.ntmps57
  go_wp2_with fail
  obtain ⟨W, hW, R0, hs, E⟩ := one_box w #[.int .i64 0, .slice none 0 0] 29
  rw [← hW.out]
  have G := Lib.hid (grown_of_ext (some g) E)
  have R := Lib.hid (R.out.ext E)
  clear E
  refine (spec_l20Plan B g m n _ R.out (by omega) hn).mono ?_
  rintro e w1 ⟨bs, p, rfl, hbs, hl, h0, h7, hr, hg⟩
  have G := Lib.hid (grown_trans' G.out hg)
  have R0 := R0.near hg (by omega)
  have q1 := hg.size
  have R := Lib.hid hr
  obtain ⟨av, cv, rfl, -⟩ := hbs.open
  have V := Lib.hid hbs
  clear hbs hr hg
  have fin : ∀ (wf : World), Box wf w.heap.size 29 #[.int .i64 p.pts, .slice av p.bs.length cv] → True := fun _ _ => trivial
  clear fin
  by_cases hp4 : 4 < p.pts
  · go_wp2_with fail
    obtain ⟨w2, hw2, P0, hs2, E2⟩ := one_box w1 #[.int .i64 p.pts, .slice av p.bs.length cv] 29
    rw [← hw2.out]
    have R := Lib.hid (R.out.ext E2)
    have V := Lib.hid (V.out.ext E2)
    have R0 := R0.ext E2
    have G := Lib.hid (grown_ext' G.out E2)
    clear E2
    refine (spec_pick B g _ 9 _ R.out (by omega)).mono ?_
    rintro e w3 ⟨y1, rfl, -, -, hr, hgw, -⟩
    have R := Lib.hid hr
    have V := Lib.hid (V.out.near hgw (by omega))
    have R0 := R0.near hgw (by omega)
    have P0 := P0.near hgw (by omega)
    have G := Lib.hid (grown_trans' G.out hgw)
    have q3 := hgw.size
    clear hr hgw
    by_cases hy1 : 0 < y1
    · go_wp2_with fail
      obtain ⟨wM, hwM, TB, hsM, hbM⟩ := one_box w3 #[] 40
      rw [← hwM.out]
      have M : Hid (Bds wM w3.heap.size (.slice (some ⟨w3.heap.size, 0, none⟩) 0 0) []) := Lib.hid ⟨rfl, .inr ⟨w3.heap.size, 0, #[], rfl, Nat.le_refl _, TB, Nat.le_refl _, Nat.zero_le _, rfl, rfl⟩⟩
      clear TB
      go_loopg [6, 7] p.bs.length (fun mm vo kk wr => ∃ (k : Nat) (tl : List Bd), k ≤ p.bs.length ∧ mm = p.bs.length - k ∧ kk = .int .i64 k ∧ tl.length ≤ k ∧ Hid (Bds wr w3.heap.size vo tl) ∧ Below w3.heap.size w3 wr)
      case atStart => exact ⟨0, [], by omega, by omega, rfl, Nat.le_refl _, M, hbM⟩
      case round =>
        clear M hbM
        obtain ⟨k, tl, hk, hgk, rfl, htl, T, hb⟩ := hrel
        have Hk := Lib.hid hgk
        clear hgk
        obtain ⟨ao, co, rfl, -⟩ := T.out.open
        have P1 := P0.ext hb
        obtain ⟨rc1, rz1⟩ := (P1).rules; have rl1 := (P1).lt
        by_cases hlk : k < p.bs.length
        · obtain ⟨gv, hav, _, hgv, _, c0, c1, c2⟩ := (V.out.ext hb).at_ hlk
          subst hav
          obtain ⟨b, hbb⟩ : ∃ b, Hid (b = p.bs.getD k Bd.z) := ⟨_, rfl⟩
          rw [← hbb.out] at c0 c1 c2
          obtain ⟨f, t, x⟩ := b
          dsimp only at c0 c1 c2
          by_cases hf : f < 4
          · by_cases ht : t < 4
            · go_wp2_with (at_builtin; refine wpl_appB _ rfl (.tmp 43) (.tmp 49) rfl w3.heap.size 0 (.slice ao tl.length co) tl rfl (T.out.alloc _) (.slice (some ⟨wr.heap.size, 0, none⟩) 1 1) [⟨f, t, x⟩] rfl ((Bds.lit wr ⟨f, t, x⟩).base (Nat.zero_le _)) (by simp; omega) (by have := hb.size; simp; omega) ?_; intro v9 w9 hv9 hg9)
              go_roundg (p.bs.length - (k+1))
              case rel => exact ⟨k+1, tl ++ [⟨f, t, x⟩], by omega, rfl, by go_num, by rw [List.length_append]; simp; omega, Lib.hid hv9, ext_grown (ext_alloc hb _) hg9 (fun q hq => (T.out.lt q hq).1)⟩
              case measure => have := Hk.out; omega
            · go_wp2_with fail
              go_roundg (p.bs.length - (k+1))
              case rel => exact ⟨k+1, tl, by omega, rfl, by go_num, by omega, T, hb⟩
              case measure => have := Hk.out; omega
          · go_wp2_with fail
            go_roundg (p.bs.length - (k+1))
            case rel => exact ⟨k+1, tl, by omega, rfl, by go_num, by omega, T, hb⟩
            case measure => have := Hk.out; omega
        · have hkn : k = p.bs.length := by omega
          have R1 := R0.ext hb
          obtain ⟨rc2, rz2⟩ := (R1).rules; have rl2 := (R1).lt
          have hkn2 := Lib.hid hkn
          clear hkn
          go_wp2_with fail
          refine bodyPost_ret (v := .agg #[.int .i64 4, .slice ao tl.length co]) (by simp [results, Try.results57, go_sem, *]) rfl ?_
          refine ⟨_, ⟨4, tl⟩, rfl, ((T.out.low (by dsimp only; omega) _).low (by dsimp only; omega) _).base (by omega), by dsimp only; omega, by dsimp only; omega, by dsimp only; omega, ?_, ?_⟩
          · exact (((R.out.ext hb).set (by dsimp only; omega) (by dsimp only; omega) _).set (by dsimp only; omega) (by dsimp only; omega) _).mono (by omega)
          · exact grown_set' (grown_set' (grown_ext' G.out hb) (Nat.le_refl _) _) (Nat.le_refl _) _
    · obtain ⟨rc1, rz1⟩ := (P0).rules; have rl1 := (P0).lt
      obtain ⟨rc2, rz2⟩ := (R0).rules; have rl2 := (R0).lt
      go_wp2_with fail
      refine bodyPost_ret (v := .agg #[.int .i64 p.pts, .slice av p.bs.length cv]) (by simp [results, Try.results57, go_sem, *]) rfl ?_
      refine ⟨_, p, rfl, ((V.out.low (by dsimp only; omega) _).low (by dsimp only; omega) _).base (by omega), hl, h0, h7, ?_, ?_⟩
      · exact ((R.out.set (by dsimp only; omega) (by dsimp only; omega) _).set (by dsimp only; omega) (by dsimp only; omega) _).mono (by omega)
      · exact grown_set' (grown_set' G.out (Nat.le_refl _) _) (Nat.le_refl _) _
  · go_upto_region 10 with fail
    obtain ⟨w2, hw2, P0, hs2, E2⟩ := one_box w1 #[.int .i64 p.pts, .slice av p.bs.length cv] 29
    rw [← hw2.out]
    have R := Lib.hid (R.out.ext E2)
    have V := Lib.hid (V.out.ext E2)
    have R0 := R0.ext E2
    have G := Lib.hid (grown_ext' G.out E2)
    clear E2
    obtain ⟨rc1, rz1⟩ := (P0).rules; have rl1 := (P0).lt
    obtain ⟨rc2, rz2⟩ := (R0).rules; have rl2 := (R0).lt
    go_wp2_with fail
    refine bodyPost_ret (v := .agg #[.int .i64 p.pts, .slice av p.bs.length cv]) (by simp [results, Try.results57, go_sem, *]) rfl ?_
    refine ⟨_, p, rfl, ((V.out.low (by dsimp only; omega) _).low (by dsimp only; omega) _).base (by omega), hl, h0, h7, ?_, ?_⟩
    · exact ((R.out.set (by dsimp only; omega) (by dsimp only; omega) _).set (by dsimp only; omega) (by dsimp only; omega) _).mono (by omega)
    · exact grown_set' (grown_set' G.out (Nat.le_refl _) _) (Nat.le_refl _) _
end Go.Proofs.Ytpccfkbpnfbdaaa
