/- The draws of a plan and places of bounds. No condition but that the reader, or the code's bytes, can be read. -/
import Derived.Test.YtlcmhcfnmohgmaaTight2
import Derived.Test.YtlcmhcfnmohgmaaBadRing
namespace Go.Proofs.Ytlcmhcfnmohgmaa
open Go.RowKit
set_option linter.unusedVariables false
set_option linter.unusedSimpArgs false
def RetRingD (w : World) (g : Nat) : Ending → World → Prop := fun e w' => ∃ (v1 v2 : Value) (p : Pl) (l : List Int), e = .returned (.tuple #[.agg #[.int .i64 p.pts, v1], v2]) ∧ Bds w' w.heap.size v1 p.bs ∧ Ints w' w.heap.size v2 l ∧ p.bs.length ≤ 16 ∧ l.length ≤ 10 ∧ 0 ≤ p.pts ∧ p.pts ≤ 7 ∧ w.grownBy w' (some g)
set_option maxRecDepth 100000 in
set_option maxHeartbeats 16000000 in
theorem spec_l20Ring (B g m : Nat) (w : World) (h : Rd w B g m) (hm : m ≤ 70000) :
    Calls Try.prog 72 #[.pointer (some ⟨g, 0, none⟩)] w (RetRingD w g) := by
  have R := Lib.hid h
  have hgl := h.lt
  clear h
  go_enter Try.func72, Try.ntmps72
  go_wp2_with fail
  obtain ⟨W, hW, R0, hs, E⟩ := one_box w #[.int .i64 0, .slice none 0 0] 25
  rw [← hW.out]
  have G := Lib.hid (grown_of_ext (some g) E)
  have R := Lib.hid (R.out.ext E)
  clear E
  refine (spec_l20Tight B g m 12 W R.out (by omega) (by omega)).mono ?_
  rintro e w1 ⟨bs, p, rfl, hbs, hl, h0, h7, hr, hgw⟩
  have R := Lib.hid hr
  have G := Lib.hid (grown_trans' G.out hgw)
  have R0 := R0.near hgw (by omega)
  have q1 := hgw.size
  obtain ⟨av, cv, rfl, -⟩ := hbs.open
  have V := Lib.hid hbs
  have hVl : ∀ q, (Value.slice av p.bs.length cv).ownBlock = some q → q < w1.heap.size := fun q hq => (hbs.lt q hq).2
  clear hbs hr hgw
  go_upto_region 2 with fail
  obtain ⟨w2, hw2, P0, hs2, E2⟩ := one_box w1 #[.int .i64 p.pts, .slice av p.bs.length cv] 25
  rw [← hw2.out]
  have R := Lib.hid (R.out.ext E2)
  have V := Lib.hid (V.out.ext E2)
  have R0 := R0.ext E2
  have G := Lib.hid (grown_ext' G.out E2)
  clear E2
  obtain ⟨rc1, rz1⟩ := (P0).rules; have rl1 := (P0).lt
  go_wp2_with fail
  refine (spec_BadRing p _ _ (V.out.base (Nat.zero_le _)) (by omega) h7).mono ?_
  rintro e w3 ⟨v9, l9, b9, rfl, h9, hl9, hb3⟩
  have R := Lib.hid (R.out.ext hb3)
  have V := Lib.hid (V.out.ext hb3)
  have R0 := R0.ext hb3
  have P0 := P0.ext hb3
  have G := Lib.hid (grown_ext' G.out hb3)
  have q3 := hb3.size
  obtain ⟨a9, c9, rfl, -⟩ := h9.open
  have O := Lib.hid h9
  clear h9 hb3 rc1 rz1 rl1
  cases b9
  · clear O
    go_upto_region 6 with fail
    obtain ⟨wy, hwy, T0, hsy, E5⟩ := one_box w3 #[] 3
    rw [← hwy.out]
    have R0 := R0.ext E5
    have P0 := P0.ext E5
    have V := Lib.hid (V.out.ext E5)
    have R := Lib.hid (R.out.ext E5)
    have G := Lib.hid (grown_ext' G.out E5)
    have O : Hid (Ints wy w3.heap.size (.slice (some ⟨w3.heap.size, 0, none⟩) 0 0) []) := Lib.hid (Ints.ofBox T0 (Nat.le_refl _))
    obtain ⟨wb, hwb⟩ : ∃ b, Hid (b = w3.heap.size) := ⟨_, rfl⟩
    have hwW : w1.heap.size < w3.heap.size := by have := P0.lt; omega
    have hwy2 : w3.heap.size ≤ wy.heap.size := E5.size
    rw [← hwb.out] at O hwW hwy2 ⊢
    clear T0 E5
    go_wp2_with fail
    refine (spec_pick B g _ 3 _ R.out (by omega)).mono ?_
    rintro e w31 ⟨x31, rfl, hx31, hy31, r31, g31, -⟩
    have R := Lib.hid r31
    have G := Lib.hid (grown_trans' G.out g31)
    have R0 := R0.near g31 (by omega)
    have P0 := P0.near g31 (by omega)
    have V := Lib.hid (V.out.near g31 (by omega))
    have O := Lib.hid (O.out.near g31 (by omega))
    have q31 := g31.size
    clear r31 g31
    obtain ⟨i, rfl⟩ : ∃ i : Nat, x31 = (i : Int) := ⟨x31.toNat, by omega⟩
    have hi3 : i < 3 := by omega
    go_wp2_with fail
    go_loopg [5, 7] (i + 2) (fun z vo kk wr => ∃ (k : Nat) (l9 : List Int), k ≤ 3 ∧ z = k + 1 ∧ kk = .int .i64 k ∧ l9.length + k ≤ 3 ∧ Hid (Ints wr wb vo l9) ∧ Hid (Rd wr B g (m + 320 - k)) ∧ Hid (w.grownBy wr (some g)) ∧
      Box wr w.heap.size 25 #[.int .i64 0, .slice none 0 0] ∧ Box wr w1.heap.size 25 #[.int .i64 p.pts, .slice av p.bs.length cv] ∧ Hid (Bds wr W.heap.size (.slice av p.bs.length cv) p.bs) ∧ wb ≤ wr.heap.size)
    case atStart => exact ⟨i + 1, [], by omega, by omega, by go_num, by simp; omega, O, Lib.hid (R.out.mono (by omega)), G, R0, P0, V, by omega⟩
    case round =>
      clear O R G R0 P0 V
      rename World => wr
      obtain ⟨k, l9, hk, hgk, rfl, hl9, O, R, G, R0, P0, V, hwr⟩ := hrel
      have Hk := Lib.hid hgk
      clear hgk
      obtain ⟨ao, co, rfl, -⟩ := O.out.open
      have hgW : g < wb := by omega
      obtain ⟨rc1, rz1⟩ := (P0).rules; have rl1 := (P0).lt
      by_cases hlt : 0 < k
      · have hlti : (0 : Int) < (k : Int) := by omega
        have hwl : IntKind.i64.wrap ((p.bs.length : Int) + 1) = (p.bs.length : Int) + 1 := IntWalk.i64_in _ (by omega)
        go_wp2_with fail
        refine (spec_pick B g _ ((p.bs.length:Int)+1) _ R.out (by omega)).mono ?_
        rintro e w32 ⟨x32, rfl, hx32, hy32, r32, g32, -⟩
        have R := Lib.hid r32
        have G := Lib.hid (grown_trans' G.out g32)
        have R0 := R0.near g32 (by omega)
        have P0 := P0.near g32 (by omega)
        have V := Lib.hid (V.out.near g32 (by omega))
        have O := Lib.hid (O.out.near g32 (by omega))
        have q32 := g32.size
        clear r32 g32
        clear rc1 rz1 rl1
        go_wp2_with (at_builtin; refine wpl_appI _ rfl (.tmp 31) (.tmp 38) rfl wb 0 (.slice ao l9.length co) l9 rfl (O.out.alloc _) (.slice (some ⟨w32.heap.size, 0, none⟩) 1 1) [x32] rfl ((Ints.lit w32 _).base (Nat.zero_le _)) (by simp; omega) (by simp; omega) ?_; intro v9 w9 hv9 hg9)
        have hOl := Lib.hid O.out.lt
        have R0 := (R0.alloc _).grown hg9 (fun e => by have := hOl.out _ e.symm; omega)
        have P0 := (P0.alloc _).grown hg9 (fun e => by have := hOl.out _ e.symm; omega)
        have V := Lib.hid ((V.out.alloc _).far hg9 (fun q hq e => by have := hOl.out _ e; have := hVl q hq; omega))
        have R := Lib.hid ((R.out.alloc _).grown hg9 (fun e => by have := hOl.out _ e.symm; omega) (fun q hq => by have := hOl.out _ hq; omega))
        have G := Lib.hid (grown_high (grown_alloc' G.out _) hg9 (fun q hq => by have := hOl.out _ hq; omega))
        have q9 := hg9.size
        rw [World.size_alloc] at q9
        have hkk : IntKind.i64.wrap ((k : Int) - 1) = ((k - 1 : Nat) : Int) := by rw [IntWalk.i64_in _ (by omega)]; omega
        go_roundg (k - 1 + 1)
        case rel => exact ⟨k - 1, l9 ++ [x32], by omega, rfl, by rw [← hkk, IntWalk.i64_in _ (by omega)], by simp; omega, Lib.hid hv9, Lib.hid (R.out.mono (by omega)), G, R0, P0, V, by omega⟩
        case measure => have := Hk.out; omega
      · have hlti : ¬ ((0 : Int) < (k : Int)) := by omega
        clear rc1 rz1 rl1
        go_wp2_with fail
        refine (spec_odd B g _ 12 _ R.out (by omega) (by omega)).mono ?_
        rintro e w41 ⟨x41, rfl, hr, hgw, -⟩
        have G := Lib.hid (grown_trans' G.out hgw)
        have V := Lib.hid (V.out.near hgw (by omega))
        have O := Lib.hid (O.out.near hgw (by omega))
        have R0 := R0.near hgw (by omega)
        have P0 := P0.near hgw (by omega)
        have q41 := hgw.size
        clear hr hgw R
        cases x41
        · skip
          obtain ⟨rc0, rz0⟩ := (R0).rules; have rl0 := (R0).lt
          obtain ⟨rc1, rz1⟩ := (P0).rules; have rl1 := (P0).lt
          go_wp2_with fail
          refine bodyPost_ret (v := .tuple #[.agg #[.int .i64 p.pts, .slice av p.bs.length cv], .slice ao l9.length co]) (by simp [results, Try.results72, go_sem, *]) rfl ?_
          exact ⟨_, _, p, l9, rfl, (((V.out.low (by dsimp only; omega) _).low (by dsimp only; omega) _).base (by omega)), (((O.out.low (by dsimp only; omega) _).low (by dsimp only; omega) _).base (by omega)), hl, by omega, h0, h7, grown_set' (grown_set' G.out (Nat.le_refl _) _) (Nat.le_refl _) _⟩
        · go_upto_region 12 with fail
          obtain ⟨w42, hw42, T42, hs42, E42⟩ := one_box w41 #[] 3
          rw [← hw42.out]
          have R0 := R0.ext E42
          have P0 := P0.ext E42
          have V := Lib.hid (V.out.ext E42)
          have G := Lib.hid (grown_ext' G.out E42)
          have O2 : Ints w42 w41.heap.size (.slice (some ⟨w41.heap.size, 0, none⟩) 0 0) [] := Ints.ofBox T42 (Nat.le_refl _)
          obtain ⟨wb2, hwb2⟩ : ∃ b, Hid (b = w41.heap.size) := ⟨_, rfl⟩
          have hwb3 : wb ≤ w41.heap.size := by omega
          rw [← hwb2.out] at O2 hwb3 ⊢
          clear E42
          obtain ⟨rc0, rz0⟩ := (R0).rules; have rl0 := (R0).lt
          obtain ⟨rc1, rz1⟩ := (P0).rules; have rl1 := (P0).lt
          go_wp2_with fail
          refine bodyPost_ret (v := .tuple #[.agg #[.int .i64 p.pts, .slice av p.bs.length cv], .slice (some ⟨wb2, 0, none⟩) 0 0]) (by simp [results, Try.results72, go_sem, *]) rfl ?_
          exact ⟨_, _, p, [], rfl, (((V.out.low (by dsimp only; omega) _).low (by dsimp only; omega) _).base (by omega)), (((O2.low (by dsimp only; omega) _).low (by dsimp only; omega) _).base (by omega)), hl, by simp, h0, h7, grown_set' (grown_set' G.out (Nat.le_refl _) _) (Nat.le_refl _) _⟩
  · go_wp2_with fail
    refine (spec_pick B g _ 2 _ R.out (by omega)).mono ?_
    rintro e w11 ⟨x11, rfl, hx11, hy11, r11, g11, -⟩
    have R := Lib.hid r11
    have G := Lib.hid (grown_trans' G.out g11)
    have R0 := R0.near g11 (by omega)
    have P0 := P0.near g11 (by omega)
    have V := Lib.hid (V.out.near g11 (by omega))
    have O := Lib.hid (O.out.near g11 (by omega))
    have q11 := g11.size
    clear r11 g11
    by_cases hx : x11 = 0
    · have hxe : (x11 == 0) = true := by simp [hx]
      clear hx
      obtain ⟨rc0, rz0⟩ := (R0).rules; have rl0 := (R0).lt
      obtain ⟨rc1, rz1⟩ := (P0).rules; have rl1 := (P0).lt
      go_wp2_with fail
      refine bodyPost_ret (v := .tuple #[.agg #[.int .i64 p.pts, .slice av p.bs.length cv], .slice a9 l9.length c9]) (by simp [results, Try.results72, go_sem, *]) rfl ?_
      exact ⟨_, _, p, l9, rfl, (((V.out.low (by dsimp only; omega) _).low (by dsimp only; omega) _).base (by omega)), (((O.out.low (by dsimp only; omega) _).low (by dsimp only; omega) _).base (by omega)), hl, hl9, h0, h7, grown_set' (grown_set' G.out (Nat.le_refl _) _) (Nat.le_refl _) _⟩
    · have hxe : (x11 == 0) = false := by simp [hx]
      clear hx O
      go_upto_region 6 with fail
      obtain ⟨wy, hwy, T0, hsy, E5⟩ := one_box w11 #[] 3
      rw [← hwy.out]
      have R0 := R0.ext E5
      have P0 := P0.ext E5
      have V := Lib.hid (V.out.ext E5)
      have R := Lib.hid (R.out.ext E5)
      have G := Lib.hid (grown_ext' G.out E5)
      have O : Hid (Ints wy w11.heap.size (.slice (some ⟨w11.heap.size, 0, none⟩) 0 0) []) := Lib.hid (Ints.ofBox T0 (Nat.le_refl _))
      obtain ⟨wb, hwb⟩ : ∃ b, Hid (b = w11.heap.size) := ⟨_, rfl⟩
      have hwW : w1.heap.size < w11.heap.size := by have := P0.lt; omega
      have hwy2 : w11.heap.size ≤ wy.heap.size := E5.size
      rw [← hwb.out] at O hwW hwy2 ⊢
      clear T0 E5
      go_wp2_with fail
      refine (spec_pick B g _ 3 _ R.out (by omega)).mono ?_
      rintro e w31 ⟨x31, rfl, hx31, hy31, r31, g31, -⟩
      have R := Lib.hid r31
      have G := Lib.hid (grown_trans' G.out g31)
      have R0 := R0.near g31 (by omega)
      have P0 := P0.near g31 (by omega)
      have V := Lib.hid (V.out.near g31 (by omega))
      have O := Lib.hid (O.out.near g31 (by omega))
      have q31 := g31.size
      clear r31 g31
      obtain ⟨i, rfl⟩ : ∃ i : Nat, x31 = (i : Int) := ⟨x31.toNat, by omega⟩
      have hi3 : i < 3 := by omega
      go_wp2_with fail
      go_loopg [5, 7] (i + 2) (fun z vo kk wr => ∃ (k : Nat) (l9 : List Int), k ≤ 3 ∧ z = k + 1 ∧ kk = .int .i64 k ∧ l9.length + k ≤ 3 ∧ Hid (Ints wr wb vo l9) ∧ Hid (Rd wr B g (m + 320 - k)) ∧ Hid (w.grownBy wr (some g)) ∧
        Box wr w.heap.size 25 #[.int .i64 0, .slice none 0 0] ∧ Box wr w1.heap.size 25 #[.int .i64 p.pts, .slice av p.bs.length cv] ∧ Hid (Bds wr W.heap.size (.slice av p.bs.length cv) p.bs) ∧ wb ≤ wr.heap.size)
      case atStart => exact ⟨i + 1, [], by omega, by omega, by go_num, by simp; omega, O, Lib.hid (R.out.mono (by omega)), G, R0, P0, V, by omega⟩
      case round =>
        clear O R G R0 P0 V
        rename World => wr
        obtain ⟨k, l9, hk, hgk, rfl, hl9, O, R, G, R0, P0, V, hwr⟩ := hrel
        have Hk := Lib.hid hgk
        clear hgk
        obtain ⟨ao, co, rfl, -⟩ := O.out.open
        have hgW : g < wb := by omega
        obtain ⟨rc1, rz1⟩ := (P0).rules; have rl1 := (P0).lt
        by_cases hlt : 0 < k
        · have hlti : (0 : Int) < (k : Int) := by omega
          have hwl : IntKind.i64.wrap ((p.bs.length : Int) + 1) = (p.bs.length : Int) + 1 := IntWalk.i64_in _ (by omega)
          go_wp2_with fail
          refine (spec_pick B g _ ((p.bs.length:Int)+1) _ R.out (by omega)).mono ?_
          rintro e w32 ⟨x32, rfl, hx32, hy32, r32, g32, -⟩
          have R := Lib.hid r32
          have G := Lib.hid (grown_trans' G.out g32)
          have R0 := R0.near g32 (by omega)
          have P0 := P0.near g32 (by omega)
          have V := Lib.hid (V.out.near g32 (by omega))
          have O := Lib.hid (O.out.near g32 (by omega))
          have q32 := g32.size
          clear r32 g32
          clear rc1 rz1 rl1
          go_wp2_with (at_builtin; refine wpl_appI _ rfl (.tmp 31) (.tmp 38) rfl wb 0 (.slice ao l9.length co) l9 rfl (O.out.alloc _) (.slice (some ⟨w32.heap.size, 0, none⟩) 1 1) [x32] rfl ((Ints.lit w32 _).base (Nat.zero_le _)) (by simp; omega) (by simp; omega) ?_; intro v9 w9 hv9 hg9)
          have hOl := Lib.hid O.out.lt
          have R0 := (R0.alloc _).grown hg9 (fun e => by have := hOl.out _ e.symm; omega)
          have P0 := (P0.alloc _).grown hg9 (fun e => by have := hOl.out _ e.symm; omega)
          have V := Lib.hid ((V.out.alloc _).far hg9 (fun q hq e => by have := hOl.out _ e; have := hVl q hq; omega))
          have R := Lib.hid ((R.out.alloc _).grown hg9 (fun e => by have := hOl.out _ e.symm; omega) (fun q hq => by have := hOl.out _ hq; omega))
          have G := Lib.hid (grown_high (grown_alloc' G.out _) hg9 (fun q hq => by have := hOl.out _ hq; omega))
          have q9 := hg9.size
          rw [World.size_alloc] at q9
          have hkk : IntKind.i64.wrap ((k : Int) - 1) = ((k - 1 : Nat) : Int) := by rw [IntWalk.i64_in _ (by omega)]; omega
          go_roundg (k - 1 + 1)
          case rel => exact ⟨k - 1, l9 ++ [x32], by omega, rfl, by rw [← hkk, IntWalk.i64_in _ (by omega)], by simp; omega, Lib.hid hv9, Lib.hid (R.out.mono (by omega)), G, R0, P0, V, by omega⟩
          case measure => have := Hk.out; omega
        · have hlti : ¬ ((0 : Int) < (k : Int)) := by omega
          clear rc1 rz1 rl1
          go_wp2_with fail
          refine (spec_odd B g _ 12 _ R.out (by omega) (by omega)).mono ?_
          rintro e w41 ⟨x41, rfl, hr, hgw, -⟩
          have G := Lib.hid (grown_trans' G.out hgw)
          have V := Lib.hid (V.out.near hgw (by omega))
          have O := Lib.hid (O.out.near hgw (by omega))
          have R0 := R0.near hgw (by omega)
          have P0 := P0.near hgw (by omega)
          have q41 := hgw.size
          clear hr hgw R
          cases x41
          · skip
            obtain ⟨rc0, rz0⟩ := (R0).rules; have rl0 := (R0).lt
            obtain ⟨rc1, rz1⟩ := (P0).rules; have rl1 := (P0).lt
            go_wp2_with fail
            refine bodyPost_ret (v := .tuple #[.agg #[.int .i64 p.pts, .slice av p.bs.length cv], .slice ao l9.length co]) (by simp [results, Try.results72, go_sem, *]) rfl ?_
            exact ⟨_, _, p, l9, rfl, (((V.out.low (by dsimp only; omega) _).low (by dsimp only; omega) _).base (by omega)), (((O.out.low (by dsimp only; omega) _).low (by dsimp only; omega) _).base (by omega)), hl, by omega, h0, h7, grown_set' (grown_set' G.out (Nat.le_refl _) _) (Nat.le_refl _) _⟩
          · go_upto_region 12 with fail
            obtain ⟨w42, hw42, T42, hs42, E42⟩ := one_box w41 #[] 3
            rw [← hw42.out]
            have R0 := R0.ext E42
            have P0 := P0.ext E42
            have V := Lib.hid (V.out.ext E42)
            have G := Lib.hid (grown_ext' G.out E42)
            have O2 : Ints w42 w41.heap.size (.slice (some ⟨w41.heap.size, 0, none⟩) 0 0) [] := Ints.ofBox T42 (Nat.le_refl _)
            obtain ⟨wb2, hwb2⟩ : ∃ b, Hid (b = w41.heap.size) := ⟨_, rfl⟩
            have hwb3 : wb ≤ w41.heap.size := by omega
            rw [← hwb2.out] at O2 hwb3 ⊢
            clear E42
            obtain ⟨rc0, rz0⟩ := (R0).rules; have rl0 := (R0).lt
            obtain ⟨rc1, rz1⟩ := (P0).rules; have rl1 := (P0).lt
            go_wp2_with fail
            refine bodyPost_ret (v := .tuple #[.agg #[.int .i64 p.pts, .slice av p.bs.length cv], .slice (some ⟨wb2, 0, none⟩) 0 0]) (by simp [results, Try.results72, go_sem, *]) rfl ?_
            exact ⟨_, _, p, [], rfl, (((V.out.low (by dsimp only; omega) _).low (by dsimp only; omega) _).base (by omega)), (((O2.low (by dsimp only; omega) _).low (by dsimp only; omega) _).base (by omega)), hl, by simp, h0, h7, grown_set' (grown_set' G.out (Nat.le_refl _) _) (Nat.le_refl _) _⟩
def RetRingO (w : World) : Ending → World → Prop := fun e w' => ∃ (v1 v2 : Value) (p : Pl) (l : List Int), e = .returned (.tuple #[.agg #[.int .i64 p.pts, v1], v2]) ∧ Bds w' w.heap.size v1 p.bs ∧ Ints w' w.heap.size v2 l ∧ p.bs.length ≤ 16 ∧ l.length ≤ 10 ∧ 0 ≤ p.pts ∧ p.pts ≤ 7 ∧ Below w.heap.size w w'
set_option maxHeartbeats 2000000 in
theorem spec_DrawRingOk (a : Option Addr) (n cap : Nat) (w : World) (h : Byt w w.heap.size a n cap) : Calls Try.prog 34 #[.slice a n cap] w (RetRingO w) := by
  have H := Lib.hid h
  clear h
  go_enter Try.func34, Try.ntmps34
  go_wp2_with fail
  obtain ⟨W, hW, B0, hs, E⟩ := one_box w #[.int .i64 0, .slice none 0 0] 25
  rw [← hW.out]
  refine (spec_l20Open a n cap W w.heap.size (by omega) (H.out.below E)).mono ?_
  rintro e w1 ⟨rfl, hR, hb1⟩
  have E := ext_trans E hb1
  have B0 := B0.ext hb1
  have R := Lib.hid hR
  have q1 := hb1.size
  clear hR hb1
  go_wp2_with fail
  refine (spec_l20Ring w.heap.size W.heap.size 0 w1 R.out (by omega)).mono ?_
  rintro e w2 ⟨v1, v2, p, l, rfl, h1, h2, hl, hl8, h0, h7, hg⟩
  have E := ext_grown E hg (fun k hk => by cases hk; omega)
  have B0 := B0.grown hg (fun e => by injection e with e; omega)
  have q2 := hg.size
  obtain ⟨a1, c1, rfl, -⟩ := h1.open
  obtain ⟨a2, c2, rfl, -⟩ := h2.open
  have V1 := Lib.hid h1; have V2 := Lib.hid h2
  clear h1 h2 hg
  obtain ⟨rc2, rz2⟩ := (B0).rules; have rl2 := (B0).lt
  go_wp2_with fail
  refine bodyPost_ret (v := .tuple #[.agg #[.int .i64 p.pts, .slice a1 p.bs.length c1], .slice a2 l.length c2]) (by simp [results, Try.results34, go_sem, *]) rfl ?_
  exact ⟨_, _, p, l, rfl, ((V1.out.low (by dsimp only; omega) _).low (by dsimp only; omega) _).base (by omega), ((V2.out.low (by dsimp only; omega) _).low (by dsimp only; omega) _).base (by omega), hl, hl8, h0, h7, ext_set (ext_set E (Nat.le_refl _) _) (Nat.le_refl _) _⟩
end Go.Proofs.Ytlcmhcfnmohgmaa
