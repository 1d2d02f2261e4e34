/- The draws of a plan and times. No condition but that the reader, or the code's bytes, can be read. -/
import Derived.Test.YtcjdodjjdchnaaaDrawn
import Derived.Test.YtcjdodjjdchnaaaKeepMath
import Derived.Test.YtcjdodjjdchnaaaTail
namespace Go.Proofs.Ytcjdodjjdchnaaa
open Go.RowKit
set_option linter.unusedVariables false
set_option linter.unusedSimpArgs false
def RetTimes (w : World) (g : Nat) : Ending → World → Prop := fun e w' => ∃ (v : Value) (l : List Int), e = .returned v ∧ Ints w' w.heap.size v l ∧ l.length ≤ 8 ∧ w.grownBy w' (some g)
theorem grown_new' {w w1 w2 : World} {g : Nat} {o : Obj} {row : Option Nat} (h : w.grownBy w1 (some g)) (h2 : (w1.alloc o).grownBy w2 row) (hr : ∀ k, row = some k → w.heap.size ≤ k) : w.grownBy w2 (some g) :=
  grown_high (grown_alloc' h o) h2 hr
set_option maxRecDepth 100000 in
set_option maxHeartbeats 16000000 in
theorem spec_l20Times (B g m b2 : Nat) (p : Pl) (v : Value) (w : World) (h : Rd w B g m) (hm : m ≤ 90000) (hp : Bds w b2 v p.bs) (hb2 : g < b2) (hlen : p.bs.length ≤ 100) (h0 : 0 ≤ p.pts) (h7 : p.pts ≤ 7) :
    Calls Try.prog 91 #[.pointer (some ⟨g, 0, none⟩), .agg #[.int .i64 p.pts, v]] w (RetTimes w g) := by
  have R := Lib.hid h
  have hgl := h.lt
  obtain ⟨a1, c1, rfl, hn1, hc1, -⟩ := hp.open
  have V := Lib.hid hp
  have hVl : ∀ q, (Value.slice a1 p.bs.length c1).ownBlock = some q → q < w.heap.size := fun q hq => (hp.lt q hq).2
  obtain ⟨P, hP⟩ : ∃ P : Nat, Hid (p.pts = (P : Int)) := ⟨p.pts.toNat, Lib.hid (by omega)⟩
  have hP7 : P ≤ 7 := by have := hP.out; omega
  rw [hP.out]
  clear h hp
  go_enter Try.func91, Try.ntmps91
  go_upto_region 1 with fail
  obtain ⟨w1, hw1, A0, hs1, E⟩ := one_box w #[.int .i64 P, .slice a1 p.bs.length c1] 25
  rw [← hw1.out]
  have G := Lib.hid (grown_of_ext (some g) E)
  have R := Lib.hid (R.out.ext E)
  have V := Lib.hid (V.out.ext E)
  clear E
  go_upto_region 2 with fail
  obtain ⟨w2, hw2, T0, hs2, E⟩ := one_box w1 #[] 3
  rw [← hw2.out]
  have A0 := A0.ext E
  have G := Lib.hid (grown_ext' G.out E)
  have R := Lib.hid (R.out.ext E)
  have V := Lib.hid (V.out.ext E)
  have hw11 : w.heap.size < w1.heap.size := by omega
  have O : Hid (Ints w2 w1.heap.size (.slice (some ⟨w1.heap.size, 0, none⟩) 0 0) []) := Lib.hid (Ints.ofBox T0 (Nat.le_refl _))
  clear T0 E
  go_wp2_with fail
  go_loopg [5, 6] P (fun z vo kk wr => ∃ (k : Nat) (l : List Int), k ≤ P ∧ z = P - k ∧ kk = .int .i64 k ∧ l.length = k ∧ Hid (Ints wr w1.heap.size vo l) ∧ Hid (Rd wr B g (m + 3 * k)) ∧ Hid (w.grownBy wr (some g)) ∧
    Box wr w.heap.size 25 #[.int .i64 P, .slice a1 p.bs.length c1] ∧ Hid (Bds wr b2 (.slice a1 p.bs.length c1) p.bs) ∧ w1.heap.size ≤ wr.heap.size)
  case atStart => exact ⟨0, [], by omega, by omega, rfl, rfl, O, R, G, A0, V, by omega⟩
  case round =>
    clear O R G A0 V
    rename World => wr
    obtain ⟨k, l, hk, hgk, rfl, hl, O, R, G, A0, V, hwr⟩ := hrel
    have Hk := Lib.hid hgk
    clear hgk
    obtain ⟨ao, co, rfl, -⟩ := O.out.open
    rw [hl]
    obtain ⟨rc0, rz0⟩ := (A0).rules; have rl0 := (A0).lt
    by_cases hlt : k < P
    · have hk7 : (k : Int) < 7 := by omega
      go_wp2_with fail
      refine (spec_pick B g _ 30 _ R.out (by omega)).mono ?_
      rintro e w11 ⟨x11, rfl, hx11, hy11, r11, g11, -⟩
      have R := Lib.hid r11
      have G := Lib.hid (grown_trans' G.out g11)
      have A0 := A0.near g11 (by omega)
      have O := Lib.hid (O.out.near g11 (by omega))
      have V := Lib.hid (V.out.near g11 (by omega))
      have q11 := g11.size
      clear r11 g11
      clear rc0 rz0 rl0
      go_wp2_with fail
      refine (spec_pick B g _ 10 _ R.out (by omega)).mono ?_
      rintro e w12 ⟨x12, rfl, hx12, hy12, r12, g12, -⟩
      have R := Lib.hid r12
      have G := Lib.hid (grown_trans' G.out g12)
      have A0 := A0.near g12 (by omega)
      have O := Lib.hid (O.out.near g12 (by omega))
      have V := Lib.hid (V.out.near g12 (by omega))
      have q12 := g12.size
      clear r12 g12
      go_wp2_with fail
      refine (spec_pick B g _ 200 _ R.out (by omega)).mono ?_
      rintro e w13 ⟨x13, rfl, hx13, hy13, r13, g13, -⟩
      have R := Lib.hid r13
      have G := Lib.hid (grown_trans' G.out g13)
      have A0 := A0.near g13 (by omega)
      have O := Lib.hid (O.out.near g13 (by omega))
      have V := Lib.hid (V.out.near g13 (by omega))
      have q13 := g13.size
      clear r13 g13
      have t3 : x13.tdiv 199 = x13 / 199 := Int.tdiv_eq_ediv_of_nonneg (by omega)
      rw [hl] at O
      go_wp2_with (at_builtin; refine wpl_appI _ rfl (.tmp 21) (.tmp 32) rfl w1.heap.size 0 (.slice ao k co) l rfl (by have h := O.out.alloc (.cells #[.int .i64 (x11 - x12 + x13 / 199 * 2000)] 3); exact h) (.slice (some ⟨w13.heap.size, 0, none⟩) 1 1) [x11 - x12 + x13 / 199 * 2000] rfl ((Ints.lit w13 _).base (Nat.zero_le _)) (by rw [hl]; simp; omega) (by simp; omega) ?_; intro v9 w9 hv9 hg9)
      have hOl := Lib.hid O.out.lt
      have A0 := (A0.alloc _).grown hg9 (fun e => by have := hOl.out _ e.symm; omega)
      have V := Lib.hid ((V.out.alloc _).far hg9 (fun q hq e => by have := hOl.out _ e; have := hVl q hq; omega))
      have R := Lib.hid ((R.out.alloc _).grown hg9 (fun e => by have := hOl.out _ e.symm; omega) (fun q hq => by have := hOl.out _ hq; omega))
      have G := Lib.hid (grown_new' G.out hg9 (fun q hq => by have := hOl.out _ hq; omega))
      have q9 := hg9.size
      rw [World.size_alloc] at q9
      go_roundg (P - (k+1))
      case rel => exact ⟨k+1, _, by omega, rfl, by go_num, by simp; omega, Lib.hid hv9, Lib.hid (R.out.mono (by omega)), G, A0, V, by omega⟩
      case measure => have := Hk.out; omega
    · have hkP : k = P := by omega
      subst hkP
      have Hl := Lib.hid hl
      rw [hl] at O
      clear hl hlt Hk hk
      go_wp2_with fail
      refine (spec_pick B g _ 3 _ R.out (by omega)).mono ?_
      rintro e w14 ⟨x14, rfl, hx14, hy14, r14, g14, -⟩
      have R := Lib.hid r14
      have G := Lib.hid (grown_trans' G.out g14)
      have A0 := A0.near g14 (by omega)
      have O := Lib.hid (O.out.near g14 (by omega))
      have V := Lib.hid (V.out.near g14 (by omega))
      have q14 := g14.size
      clear r14 g14
      clear rc0 rz0 rl0
      by_cases hx : 0 < x14
      · obtain ⟨rc0, rz0⟩ := (A0).rules; have rl0 := (A0).lt
        go_wp2_with fail
        refine (show Calls Try.prog 19 #[.agg #[.int .i64 k, .slice a1 p.bs.length c1]] w14 (fun e w' => e = .returned (.bool p.ok) ∧ Below w14.heap.size w14 w') by rw [← hP.out]; exact spec_PlanOk p _ _ (V.out.base (Nat.zero_le _))).mono ?_
        rintro e w15 ⟨rfl, hb15⟩
        have A0 := A0.ext hb15
        have O := Lib.hid (O.out.ext hb15)
        have V := Lib.hid (V.out.ext hb15)
        have R := Lib.hid (R.out.ext hb15)
        have G := Lib.hid (grown_ext' G.out hb15)
        have q15 := hb15.size
        clear rc0 rz0 rl0 hb15
        cases hok : p.ok
        · clear hok
          go_wp2_with fail
          refine (spec_odd B g _ 20 _ R.out (by omega) (by omega)).mono ?_
          rintro e w21 ⟨x21, rfl, hr, hgw, -⟩
          have O := Lib.hid (O.out.near hgw (by omega))
          have G := Lib.hid (grown_trans' G.out hgw)
          have q21 := hgw.size
          have hll := Hl.out
          have hgs := G.out.size
          have ho1 : ∀ q, (Value.slice ao k co).ownBlock = some q → q < w21.heap.size := fun q hq => (O.out.lt q hq).2
          clear hr hgw
          cases x21
          · have Hl2 := Lib.hid hll
            clear hll
            go_wp2_with fail
            go_ret
            exact ⟨_, l, rfl, O.out.base (by omega), by have := Hl2.out; omega, G.out⟩
          · have Hl2 := Lib.hid hll
            clear hll
            have hw2b : w1.heap.size ≤ w21.heap.size := by omega
            go_wp2_with (at_builtin; refine wpl_appI _ rfl (.tmp 77) (.tmp 78) rfl w1.heap.size 0 (.slice ao k co) l rfl (O.out.alloc _) (.slice (some ⟨w21.heap.size, 0, none⟩) 1 1) [0] rfl ((Ints.lit w21 0).base (Nat.zero_le _)) (by rw [Hl2.out]; simp; omega) (by simp; omega) ?_; intro v9 w9 hv9 hg9)
            go_ret
            exact ⟨_, l ++ [0], rfl, hv9.base (by omega), by have := Hl2.out; simp; omega, grown_new' G.out hg9 (fun q hq => by have := (O.out.lt q hq).1; omega)⟩
        · have Hin : Hid (∀ b ∈ p.bs, (0 ≤ b.f ∧ b.f < k) ∧ (0 ≤ b.t ∧ b.t < k)) := by
            refine Lib.hid fun b hb => ?_
            simp only [Pl.ok, Bool.and_eq_true, decide_eq_true_eq, List.all_eq_true] at hok
            have := hok.2.2 b hb
            simp only [Bd.ok, Bool.and_eq_true, inB_iff] at this
            have := hP.out
            omega
          clear hok
          go_wp2_with fail
          go_loopg [7] 8 (fun z rr wr => ∃ (r : Nat) (l : List Int), r ≤ 8 ∧ z = 8 - r ∧ rr = .int .i64 r ∧ Hid (l.length = k) ∧ Hid (Ints wr w1.heap.size (.slice ao k co) l) ∧ Hid (Rd wr B g (m + 60)) ∧ Hid (w.grownBy wr (some g)) ∧
            Box wr w.heap.size 25 #[.int .i64 k, .slice a1 p.bs.length c1] ∧ Hid (Bds wr b2 (.slice a1 p.bs.length c1) p.bs) ∧ w1.heap.size ≤ wr.heap.size)
          case atStart => exact ⟨0, l, by omega, by omega, rfl, Hl, O, Lib.hid (R.out.mono (by omega)), G, A0, V, by omega⟩
          case round =>
            clear O R G A0 V Hl
            rename World => ws
            obtain ⟨r, l, hr8, hgk, rfl, Hl, O, R, G, A0, V, hws⟩ := hrel
            have Hr := Lib.hid hgk
            clear hgk
            by_cases hlr : r < 8
            · have hlri : (r : Int) < 8 := by omega
              go_wp2_with fail
              go_loopg [8] p.bs.length (fun z kk wx => ∃ (k9 : Nat) (l : List Int), k9 ≤ p.bs.length ∧ z = p.bs.length - k9 ∧ kk = .int .i64 k9 ∧ Hid (l.length = k) ∧ Hid (Ints wx w1.heap.size (.slice ao k co) l) ∧ Hid (Rd wx B g (m + 60)) ∧ Hid (w.grownBy wx (some g)) ∧
                Box wx w.heap.size 25 #[.int .i64 k, .slice a1 p.bs.length c1] ∧ Hid (Bds wx b2 (.slice a1 p.bs.length c1) p.bs) ∧ w1.heap.size ≤ wx.heap.size)
              case atStart => exact ⟨0, l, by omega, by omega, rfl, Hl, O, R, G, A0, V, hws⟩
              case round =>
                clear O R G A0 V Hl hws
                rename World => wz
                obtain ⟨k9, l, hk9, hgk9, rfl, Hl, O, R, G, A0, V, hwz⟩ := hrel
                have Hk := Lib.hid hgk9
                clear hgk9
                obtain ⟨rc0, rz0⟩ := (A0).rules; have rl0 := (A0).lt
                by_cases hlt : k9 < p.bs.length
                · obtain ⟨g3, ha3, _, hg3, _, x0, x1, x2⟩ := V.out.at_ hlt
                  have hbi := Hin.out (p.bs.getD k9 Bd.z) (by rw [List.getD_eq_getElem?_getD, List.getElem?_eq_getElem hlt]; exact List.getElem_mem hlt)
                  obtain ⟨m9, Hm9⟩ : ∃ m, Hid (m = (p.bs.getD k9 Bd.z).m) := ⟨_, rfl⟩
                  obtain ⟨f, Hf⟩ : ∃ f : Nat, Hid ((p.bs.getD k9 Bd.z).f = (f : Int)) := ⟨(p.bs.getD k9 Bd.z).f.toNat, Lib.hid (by omega)⟩
                  obtain ⟨t, Ht⟩ : ∃ t : Nat, Hid ((p.bs.getD k9 Bd.z).t = (t : Int)) := ⟨(p.bs.getD k9 Bd.z).t.toNat, Lib.hid (by omega)⟩
                  rw [Hf.out, Ht.out] at hbi
                  rw [Hf.out] at x0
                  rw [Ht.out] at x1
                  rw [← Hm9.out] at x2
                  subst ha3
                  go_upto_region 14 with fail
                  obtain ⟨w4, hw4, B4, hs4, E4⟩ := one_box wz #[.int .i64 f, .int .i64 t, .int .i64 m9] 40
                  rw [← hw4.out]
                  have A0 := A0.ext E4
                  have O := Lib.hid (O.out.ext E4)
                  have V := Lib.hid (V.out.ext E4)
                  have R := Lib.hid (R.out.ext E4)
                  have G := Lib.hid (grown_ext' G.out E4)
                  obtain ⟨go, hao, hgo1, hgo, hfz, cx⟩ := O.out.at_ (j := t) (by rw [Hl.out]; omega)
                  obtain ⟨_, he, _, _, _, cy⟩ := O.out.at_ (j := f) (by rw [Hl.out]; omega)
                  have hao2 : ao = some ⟨go, 0, none⟩ := hao
                  obtain ⟨x, Hx⟩ : ∃ x, Hid (x = l.getD t 0) := ⟨_, rfl⟩
                  obtain ⟨y, Hy⟩ : ∃ y, Hid (y = l.getD f 0) := ⟨_, rfl⟩
                  subst hao
                  cases he
                  rw [← Hx.out] at cx
                  rw [← Hy.out] at cy
                  obtain ⟨z9, Hz⟩ : ∃ z, Hid (z = IntKind.i64.wrap (y + m9)) := ⟨_, rfl⟩
                  have hw : IntKind.i64.wrap (y + m9) = z9 := Hz.out.symm
                  clear rc0 rz0 rl0 x0 x1 x2 hg3 E4
                  by_cases hmn : x ≤ z9
                  · skip
                    refine wp_region_tail 18 (by kernel_rfl) (by kernel_rfl) (fun w' => w'.cell? ⟨wz.heap.size, 0, none⟩ = some (.int .i64 f) ∧ w'.cell? ⟨wz.heap.size, 1, none⟩ = some (.int .i64 t) ∧ w'.cell? ⟨wz.heap.size, 2, none⟩ = some (.int .i64 m9) ∧ w'.cell? ⟨go, t, none⟩ = some (.int .i64 x) ∧ w'.cell? ⟨go, f, none⟩ = some (.int .i64 y)) ?_ ?_
                    · exact ⟨B4.cell0 rfl, B4.cell0 rfl, B4.cell0 rfl, cx, cy⟩
                    intro hHeld
                    simp only [List.pop_toArray, List.dropLast]
                    refine wpAnyH_take (i := 0) (v := ?_) rfl (by kernel_rfl) (by kernel_rfl) (by kernel_rfl) (fun _ _ _ h => h) (Or.inl ⟨by rfl, fun w' hS' => ?_⟩) (by assumption) ?_
                    rotate_left
                    · (try dsimp only at hS'); go_simp; (try rw [if_pos (by omega)]); try with_reducible rfl
                    try simp only [Act.put, List.getElem_toArray, List.getElem_cons_zero, List.getElem_cons_succ, List.setIfInBounds_toArray, List.set_cons_zero, List.set_cons_succ]
                    refine wpAnyH_take (i := 1) (v := ?_) rfl (by kernel_rfl) (by kernel_rfl) (by kernel_rfl) (fun _ _ _ h => h) (Or.inl ⟨by rfl, fun w' hS' => ?_⟩) (by assumption) ?_
                    rotate_left
                    · (try dsimp only at hS'); go_simp; (try rw [if_pos (by omega)]); try with_reducible rfl
                    try simp only [Act.put, List.getElem_toArray, List.getElem_cons_zero, List.getElem_cons_succ, List.setIfInBounds_toArray, List.set_cons_zero, List.set_cons_succ]
                    refine wpAnyH_take (i := 2) (v := ?_) rfl (by kernel_rfl) (by kernel_rfl) (by kernel_rfl) (fun _ _ _ h => h) (Or.inl ⟨by rfl, fun w' hS' => ?_⟩) (by assumption) ?_
                    rotate_left
                    · (try dsimp only at hS'); go_simp; (try rw [if_pos (by omega)]); try with_reducible rfl
                    try simp only [Act.put, List.getElem_toArray, List.getElem_cons_zero, List.getElem_cons_succ, List.setIfInBounds_toArray, List.set_cons_zero, List.set_cons_succ]
                    refine wpAnyH_take (i := 3) (v := ?_) rfl (by kernel_rfl) (by kernel_rfl) (by kernel_rfl) (fun _ _ _ h => h) (Or.inl ⟨by rfl, fun w' hS' => ?_⟩) (by assumption) ?_
                    rotate_left
                    · (try dsimp only at hS'); go_simp; (try rw [if_pos (by omega)]); try with_reducible rfl
                    try simp only [Act.put, List.getElem_toArray, List.getElem_cons_zero, List.getElem_cons_succ, List.setIfInBounds_toArray, List.set_cons_zero, List.set_cons_succ]
                    refine wpAnyH_take (i := 4) (v := ?_) rfl (by kernel_rfl) (by kernel_rfl) (by kernel_rfl) (fun _ _ _ h => h) (Or.inl ⟨by rfl, fun w' hS' => ?_⟩) (by assumption) ?_
                    rotate_left
                    · (try dsimp only at hS'); go_simp; (try rw [if_pos (by omega)]); try with_reducible rfl
                    try simp only [Act.put, List.getElem_toArray, List.getElem_cons_zero, List.getElem_cons_succ, List.setIfInBounds_toArray, List.set_cons_zero, List.set_cons_succ]
                    refine wpAnyH_take (i := 5) (v := ?_) rfl (by kernel_rfl) (by kernel_rfl) (by kernel_rfl) (fun _ _ _ h => h) (Or.inl ⟨by rfl, fun w' hS' => ?_⟩) (by assumption) ?_
                    rotate_left
                    · (try dsimp only at hS'); go_simp; (try rw [if_pos (by omega)]); try with_reducible rfl
                    try simp only [Act.put, List.getElem_toArray, List.getElem_cons_zero, List.getElem_cons_succ, List.setIfInBounds_toArray, List.set_cons_zero, List.set_cons_succ]
                    refine wpAnyH_take (i := 6) (v := ?_) rfl (by kernel_rfl) (by kernel_rfl) (by kernel_rfl) (fun _ _ _ h => h) (Or.inl ⟨by rfl, fun w' hS' => ?_⟩) (by assumption) ?_
                    rotate_left
                    · (try dsimp only at hS'); go_simp; (try rw [if_pos (by omega)]); try with_reducible rfl
                    try simp only [Act.put, List.getElem_toArray, List.getElem_cons_zero, List.getElem_cons_succ, List.setIfInBounds_toArray, List.set_cons_zero, List.set_cons_succ]
                    refine wpAnyH_take (i := 7) (v := ?_) rfl (by kernel_rfl) (by kernel_rfl) (by kernel_rfl) (fun _ _ _ h => h) (Or.inl ⟨by rfl, fun w' hS' => ?_⟩) (by assumption) ?_
                    rotate_left
                    · (try dsimp only at hS'); go_simp; (try rw [if_pos (by omega)]); try with_reducible rfl
                    try simp only [Act.put, List.getElem_toArray, List.getElem_cons_zero, List.getElem_cons_succ, List.setIfInBounds_toArray, List.set_cons_zero, List.set_cons_succ]
                    refine wpAnyH_take (i := 8) (v := ?_) rfl (by kernel_rfl) (by kernel_rfl) (by kernel_rfl) (fun _ _ _ h => h) (Or.inl ⟨by rfl, fun w' hS' => ?_⟩) (by assumption) ?_
                    rotate_left
                    · (try dsimp only at hS'); go_simp; (try rw [if_pos (by omega)]); try with_reducible rfl
                    try simp only [Act.put, List.getElem_toArray, List.getElem_cons_zero, List.getElem_cons_succ, List.setIfInBounds_toArray, List.set_cons_zero, List.set_cons_succ]
                    refine wpAnyH_take (i := 9) (v := ?_) rfl (by kernel_rfl) (by kernel_rfl) (by kernel_rfl) (fun _ _ _ h => h) (Or.inl ⟨by rfl, fun w' hS' => ?_⟩) (by assumption) ?_
                    rotate_left
                    · (try dsimp only at hS'); go_simp; (try rw [if_pos (by omega)]); try with_reducible rfl
                    try simp only [Act.put, List.getElem_toArray, List.getElem_cons_zero, List.getElem_cons_succ, List.setIfInBounds_toArray, List.set_cons_zero, List.set_cons_succ]
                    refine wpAnyH_take (i := 10) (v := ?_) rfl (by kernel_rfl) (by kernel_rfl) (by kernel_rfl) (fun _ _ _ h => h) (Or.inl ⟨by rfl, fun w' hS' => ?_⟩) (by assumption) ?_
                    rotate_left
                    · (try dsimp only at hS'); go_simp; (try rw [if_pos (by omega)]); try with_reducible rfl
                    try simp only [Act.put, List.getElem_toArray, List.getElem_cons_zero, List.getElem_cons_succ, List.setIfInBounds_toArray, List.set_cons_zero, List.set_cons_succ]
                    refine wpAnyH_take (i := 11) (v := ?_) rfl (by kernel_rfl) (by kernel_rfl) (by kernel_rfl) (fun _ _ _ h => h) (Or.inl ⟨by rfl, fun w' hS' => ?_⟩) (by assumption) ?_
                    rotate_left
                    · (try dsimp only at hS'); go_simp; (try rw [if_pos (by omega)]); try with_reducible rfl
                    try simp only [Act.put, List.getElem_toArray, List.getElem_cons_zero, List.getElem_cons_succ, List.setIfInBounds_toArray, List.set_cons_zero, List.set_cons_succ]
                    refine wpAnyH_take (i := 12) (v := ?_) rfl (by kernel_rfl) (by kernel_rfl) (by kernel_rfl) (fun _ _ _ h => h) (Or.inl ⟨by rfl, fun w' hS' => ?_⟩) (by assumption) ?_
                    rotate_left
                    · (try dsimp only at hS'); go_simp; (try rw [if_pos (by omega)]); try with_reducible rfl
                    try simp only [Act.put, List.getElem_toArray, List.getElem_cons_zero, List.getElem_cons_succ, List.setIfInBounds_toArray, List.set_cons_zero, List.set_cons_succ]
                    refine wpAnyH_take (i := 13) (v := ?_) rfl (by kernel_rfl) (by kernel_rfl) (by kernel_rfl) (fun _ _ _ h => h) (Or.inl ⟨by rfl, fun w' hS' => ?_⟩) (by assumption) ?_
                    rotate_left
                    · (try dsimp only at hS'); go_simp; (try rw [if_pos (by omega)]); try with_reducible rfl
                    try simp only [Act.put, List.getElem_toArray, List.getElem_cons_zero, List.getElem_cons_succ, List.setIfInBounds_toArray, List.set_cons_zero, List.set_cons_succ]
                    refine wpAnyH_take (i := 14) (v := ?_) rfl (by kernel_rfl) (by kernel_rfl) (by kernel_rfl) (fun _ _ _ h => h) (Or.inl ⟨by rfl, fun w' hS' => ?_⟩) (by assumption) ?_
                    rotate_left
                    · (try dsimp only at hS'); go_simp; (try rw [if_pos (by omega)]); try with_reducible rfl
                    try simp only [Act.put, List.getElem_toArray, List.getElem_cons_zero, List.getElem_cons_succ, List.setIfInBounds_toArray, List.set_cons_zero, List.set_cons_succ]
                    refine wpAnyH_take (i := 15) (v := ?_) rfl (by kernel_rfl) (by kernel_rfl) (by kernel_rfl) (fun _ _ _ h => h) (Or.inl ⟨by rfl, fun w' hS' => ?_⟩) (by assumption) ?_
                    rotate_left
                    · (try dsimp only at hS'); go_simp; (try rw [if_pos (by omega)]); try with_reducible rfl
                    try simp only [Act.put, List.getElem_toArray, List.getElem_cons_zero, List.getElem_cons_succ, List.setIfInBounds_toArray, List.set_cons_zero, List.set_cons_succ]
                    refine wpAnyH_take (i := 16) (v := ?_) rfl (by kernel_rfl) (by kernel_rfl) (by kernel_rfl) (fun _ _ _ h => h) (Or.inl ⟨by rfl, fun w' hS' => ?_⟩) (by assumption) ?_
                    rotate_left
                    · (try dsimp only at hS'); go_simp; (try rw [if_pos (by omega)]); try with_reducible rfl
                    try simp only [Act.put, List.getElem_toArray, List.getElem_cons_zero, List.getElem_cons_succ, List.setIfInBounds_toArray, List.set_cons_zero, List.set_cons_succ]
                    refine wpAnyH_take (i := 17) (v := ?_) rfl (by kernel_rfl) (by kernel_rfl) (by kernel_rfl) (fun _ _ _ h => h) (Or.inl ⟨by rfl, fun w' hS' => ?_⟩) (by assumption) ?_
                    rotate_left
                    · (try dsimp only at hS'); go_simp; (try rw [if_pos (by omega)]); try with_reducible rfl
                    try simp only [Act.put, List.getElem_toArray, List.getElem_cons_zero, List.getElem_cons_succ, List.setIfInBounds_toArray, List.set_cons_zero, List.set_cons_succ]
                    refine wpAnyH_done (by kernel_rfl) ?_ _
                    refine tail_step rfl (fun K' hK => ?_)
                    refine if_yes (by rfl) ?_
                    try simp only [Act.put, List.getElem_toArray, List.getElem_cons_zero, List.getElem_cons_succ, List.setIfInBounds_toArray, List.set_cons_zero, List.set_cons_succ]
                    go_simp
                    refine hK _ _ ?_
                    clear hK K'
                    try simp only [Act.put, List.getElem_toArray, List.getElem_cons_zero, List.getElem_cons_succ, List.setIfInBounds_toArray, List.set_cons_zero, List.set_cons_succ]
                    go_wp2_with fail
                    go_roundg (p.bs.length - (k9+1))
                    case rel =>
                      have R := (R.out.set (p := ⟨go, t, none⟩) (by dsimp only; omega) (by dsimp only; omega) (.int .i64 x)).drew
                      have G := grown_drew' (grown_set' (k := go) (i := t) G.out (by omega) (.int .i64 x))
                      have A0 := (A0.far (p := ⟨go, t, none⟩) (by dsimp only; omega) (.int .i64 x)).drew
                      have V := (V.out.far (grown_set (i := t) (World.grownBy.refl _ (some go)) (.int .i64 x)) (fun q hq e => by injection e with e; have := hVl q hq; omega)).drew
                      exact ⟨k9+1, l.set t x, by omega, rfl, by go_num, Lib.hid (by rw [List.length_set]; exact Hl.out), Lib.hid (O.out.set t x).drew, Lib.hid R, Lib.hid G, A0, Lib.hid V, by show w1.heap.size ≤ (w4.setCell _ _).heap.size; simp [World.setCell]; omega⟩
                    case measure => have := Hk.out; omega
                  · have hmn2 : z9 ≤ x := by omega
                    refine wp_region_tail 18 (by kernel_rfl) (by kernel_rfl) (fun w' => w'.cell? ⟨wz.heap.size, 0, none⟩ = some (.int .i64 f) ∧ w'.cell? ⟨wz.heap.size, 1, none⟩ = some (.int .i64 t) ∧ w'.cell? ⟨wz.heap.size, 2, none⟩ = some (.int .i64 m9) ∧ w'.cell? ⟨go, t, none⟩ = some (.int .i64 x) ∧ w'.cell? ⟨go, f, none⟩ = some (.int .i64 y)) ?_ ?_
                    · exact ⟨B4.cell0 rfl, B4.cell0 rfl, B4.cell0 rfl, cx, cy⟩
                    intro hHeld
                    simp only [List.pop_toArray, List.dropLast]
                    refine wpAnyH_take (i := 0) (v := ?_) rfl (by kernel_rfl) (by kernel_rfl) (by kernel_rfl) (fun _ _ _ h => h) (Or.inl ⟨by rfl, fun w' hS' => ?_⟩) (by assumption) ?_
                    rotate_left
                    · (try dsimp only at hS'); go_simp; (try rw [if_pos (by omega)]); try with_reducible rfl
                    try simp only [Act.put, List.getElem_toArray, List.getElem_cons_zero, List.getElem_cons_succ, List.setIfInBounds_toArray, List.set_cons_zero, List.set_cons_succ]
                    refine wpAnyH_take (i := 1) (v := ?_) rfl (by kernel_rfl) (by kernel_rfl) (by kernel_rfl) (fun _ _ _ h => h) (Or.inl ⟨by rfl, fun w' hS' => ?_⟩) (by assumption) ?_
                    rotate_left
                    · (try dsimp only at hS'); go_simp; (try rw [if_pos (by omega)]); try with_reducible rfl
                    try simp only [Act.put, List.getElem_toArray, List.getElem_cons_zero, List.getElem_cons_succ, List.setIfInBounds_toArray, List.set_cons_zero, List.set_cons_succ]
                    refine wpAnyH_take (i := 2) (v := ?_) rfl (by kernel_rfl) (by kernel_rfl) (by kernel_rfl) (fun _ _ _ h => h) (Or.inl ⟨by rfl, fun w' hS' => ?_⟩) (by assumption) ?_
                    rotate_left
                    · (try dsimp only at hS'); go_simp; (try rw [if_pos (by omega)]); try with_reducible rfl
                    try simp only [Act.put, List.getElem_toArray, List.getElem_cons_zero, List.getElem_cons_succ, List.setIfInBounds_toArray, List.set_cons_zero, List.set_cons_succ]
                    refine wpAnyH_take (i := 3) (v := ?_) rfl (by kernel_rfl) (by kernel_rfl) (by kernel_rfl) (fun _ _ _ h => h) (Or.inl ⟨by rfl, fun w' hS' => ?_⟩) (by assumption) ?_
                    rotate_left
                    · (try dsimp only at hS'); go_simp; (try rw [if_pos (by omega)]); try with_reducible rfl
                    try simp only [Act.put, List.getElem_toArray, List.getElem_cons_zero, List.getElem_cons_succ, List.setIfInBounds_toArray, List.set_cons_zero, List.set_cons_succ]
                    refine wpAnyH_take (i := 4) (v := ?_) rfl (by kernel_rfl) (by kernel_rfl) (by kernel_rfl) (fun _ _ _ h => h) (Or.inl ⟨by rfl, fun w' hS' => ?_⟩) (by assumption) ?_
                    rotate_left
                    · (try dsimp only at hS'); go_simp; (try rw [if_pos (by omega)]); try with_reducible rfl
                    try simp only [Act.put, List.getElem_toArray, List.getElem_cons_zero, List.getElem_cons_succ, List.setIfInBounds_toArray, List.set_cons_zero, List.set_cons_succ]
                    refine wpAnyH_take (i := 5) (v := ?_) rfl (by kernel_rfl) (by kernel_rfl) (by kernel_rfl) (fun _ _ _ h => h) (Or.inl ⟨by rfl, fun w' hS' => ?_⟩) (by assumption) ?_
                    rotate_left
                    · (try dsimp only at hS'); go_simp; (try rw [if_pos (by omega)]); try with_reducible rfl
                    try simp only [Act.put, List.getElem_toArray, List.getElem_cons_zero, List.getElem_cons_succ, List.setIfInBounds_toArray, List.set_cons_zero, List.set_cons_succ]
                    refine wpAnyH_take (i := 6) (v := ?_) rfl (by kernel_rfl) (by kernel_rfl) (by kernel_rfl) (fun _ _ _ h => h) (Or.inl ⟨by rfl, fun w' hS' => ?_⟩) (by assumption) ?_
                    rotate_left
                    · (try dsimp only at hS'); go_simp; (try rw [if_pos (by omega)]); try with_reducible rfl
                    try simp only [Act.put, List.getElem_toArray, List.getElem_cons_zero, List.getElem_cons_succ, List.setIfInBounds_toArray, List.set_cons_zero, List.set_cons_succ]
                    refine wpAnyH_take (i := 7) (v := ?_) rfl (by kernel_rfl) (by kernel_rfl) (by kernel_rfl) (fun _ _ _ h => h) (Or.inl ⟨by rfl, fun w' hS' => ?_⟩) (by assumption) ?_
                    rotate_left
                    · (try dsimp only at hS'); go_simp; (try rw [if_pos (by omega)]); try with_reducible rfl
                    try simp only [Act.put, List.getElem_toArray, List.getElem_cons_zero, List.getElem_cons_succ, List.setIfInBounds_toArray, List.set_cons_zero, List.set_cons_succ]
                    refine wpAnyH_take (i := 8) (v := ?_) rfl (by kernel_rfl) (by kernel_rfl) (by kernel_rfl) (fun _ _ _ h => h) (Or.inl ⟨by rfl, fun w' hS' => ?_⟩) (by assumption) ?_
                    rotate_left
                    · (try dsimp only at hS'); go_simp; (try rw [if_pos (by omega)]); try with_reducible rfl
                    try simp only [Act.put, List.getElem_toArray, List.getElem_cons_zero, List.getElem_cons_succ, List.setIfInBounds_toArray, List.set_cons_zero, List.set_cons_succ]
                    refine wpAnyH_take (i := 9) (v := ?_) rfl (by kernel_rfl) (by kernel_rfl) (by kernel_rfl) (fun _ _ _ h => h) (Or.inl ⟨by rfl, fun w' hS' => ?_⟩) (by assumption) ?_
                    rotate_left
                    · (try dsimp only at hS'); go_simp; (try rw [if_pos (by omega)]); try with_reducible rfl
                    try simp only [Act.put, List.getElem_toArray, List.getElem_cons_zero, List.getElem_cons_succ, List.setIfInBounds_toArray, List.set_cons_zero, List.set_cons_succ]
                    refine wpAnyH_take (i := 10) (v := ?_) rfl (by kernel_rfl) (by kernel_rfl) (by kernel_rfl) (fun _ _ _ h => h) (Or.inl ⟨by rfl, fun w' hS' => ?_⟩) (by assumption) ?_
                    rotate_left
                    · (try dsimp only at hS'); go_simp; (try rw [if_pos (by omega)]); try with_reducible rfl
                    try simp only [Act.put, List.getElem_toArray, List.getElem_cons_zero, List.getElem_cons_succ, List.setIfInBounds_toArray, List.set_cons_zero, List.set_cons_succ]
                    refine wpAnyH_take (i := 11) (v := ?_) rfl (by kernel_rfl) (by kernel_rfl) (by kernel_rfl) (fun _ _ _ h => h) (Or.inl ⟨by rfl, fun w' hS' => ?_⟩) (by assumption) ?_
                    rotate_left
                    · (try dsimp only at hS'); go_simp; (try rw [if_pos (by omega)]); try with_reducible rfl
                    try simp only [Act.put, List.getElem_toArray, List.getElem_cons_zero, List.getElem_cons_succ, List.setIfInBounds_toArray, List.set_cons_zero, List.set_cons_succ]
                    refine wpAnyH_take (i := 12) (v := ?_) rfl (by kernel_rfl) (by kernel_rfl) (by kernel_rfl) (fun _ _ _ h => h) (Or.inl ⟨by rfl, fun w' hS' => ?_⟩) (by assumption) ?_
                    rotate_left
                    · (try dsimp only at hS'); go_simp; (try rw [if_pos (by omega)]); try with_reducible rfl
                    try simp only [Act.put, List.getElem_toArray, List.getElem_cons_zero, List.getElem_cons_succ, List.setIfInBounds_toArray, List.set_cons_zero, List.set_cons_succ]
                    refine wpAnyH_take (i := 13) (v := ?_) rfl (by kernel_rfl) (by kernel_rfl) (by kernel_rfl) (fun _ _ _ h => h) (Or.inl ⟨by rfl, fun w' hS' => ?_⟩) (by assumption) ?_
                    rotate_left
                    · (try dsimp only at hS'); go_simp; (try rw [if_pos (by omega)]); try with_reducible rfl
                    try simp only [Act.put, List.getElem_toArray, List.getElem_cons_zero, List.getElem_cons_succ, List.setIfInBounds_toArray, List.set_cons_zero, List.set_cons_succ]
                    refine wpAnyH_take (i := 14) (v := ?_) rfl (by kernel_rfl) (by kernel_rfl) (by kernel_rfl) (fun _ _ _ h => h) (Or.inl ⟨by rfl, fun w' hS' => ?_⟩) (by assumption) ?_
                    rotate_left
                    · (try dsimp only at hS'); go_simp; (try rw [if_pos (by omega)]); try with_reducible rfl
                    try simp only [Act.put, List.getElem_toArray, List.getElem_cons_zero, List.getElem_cons_succ, List.setIfInBounds_toArray, List.set_cons_zero, List.set_cons_succ]
                    refine wpAnyH_take (i := 15) (v := ?_) rfl (by kernel_rfl) (by kernel_rfl) (by kernel_rfl) (fun _ _ _ h => h) (Or.inl ⟨by rfl, fun w' hS' => ?_⟩) (by assumption) ?_
                    rotate_left
                    · (try dsimp only at hS'); go_simp; (try rw [if_pos (by omega)]); try with_reducible rfl
                    try simp only [Act.put, List.getElem_toArray, List.getElem_cons_zero, List.getElem_cons_succ, List.setIfInBounds_toArray, List.set_cons_zero, List.set_cons_succ]
                    refine wpAnyH_take (i := 16) (v := ?_) rfl (by kernel_rfl) (by kernel_rfl) (by kernel_rfl) (fun _ _ _ h => h) (Or.inl ⟨by rfl, fun w' hS' => ?_⟩) (by assumption) ?_
                    rotate_left
                    · (try dsimp only at hS'); go_simp; (try rw [if_pos (by omega)]); try with_reducible rfl
                    try simp only [Act.put, List.getElem_toArray, List.getElem_cons_zero, List.getElem_cons_succ, List.setIfInBounds_toArray, List.set_cons_zero, List.set_cons_succ]
                    refine wpAnyH_take (i := 17) (v := ?_) rfl (by kernel_rfl) (by kernel_rfl) (by kernel_rfl) (fun _ _ _ h => h) (Or.inl ⟨by rfl, fun w' hS' => ?_⟩) (by assumption) ?_
                    rotate_left
                    · (try dsimp only at hS'); go_simp; (try rw [if_pos (by omega)]); try with_reducible rfl
                    try simp only [Act.put, List.getElem_toArray, List.getElem_cons_zero, List.getElem_cons_succ, List.setIfInBounds_toArray, List.set_cons_zero, List.set_cons_succ]
                    refine wpAnyH_done (by kernel_rfl) ?_ _
                    refine tail_step rfl (fun K' hK => ?_)
                    refine if_yes (by rfl) ?_
                    try simp only [Act.put, List.getElem_toArray, List.getElem_cons_zero, List.getElem_cons_succ, List.setIfInBounds_toArray, List.set_cons_zero, List.set_cons_succ]
                    go_simp
                    refine hK _ _ ?_
                    clear hK K'
                    try simp only [Act.put, List.getElem_toArray, List.getElem_cons_zero, List.getElem_cons_succ, List.setIfInBounds_toArray, List.set_cons_zero, List.set_cons_succ]
                    go_wp2_with fail
                    go_roundg (p.bs.length - (k9+1))
                    case rel =>
                      have R := (R.out.set (p := ⟨go, t, none⟩) (by dsimp only; omega) (by dsimp only; omega) (.int .i64 z9)).drew
                      have G := grown_drew' (grown_set' (k := go) (i := t) G.out (by omega) (.int .i64 z9))
                      have A0 := (A0.far (p := ⟨go, t, none⟩) (by dsimp only; omega) (.int .i64 z9)).drew
                      have V := (V.out.far (grown_set (i := t) (World.grownBy.refl _ (some go)) (.int .i64 z9)) (fun q hq e => by injection e with e; have := hVl q hq; omega)).drew
                      exact ⟨k9+1, l.set t z9, by omega, rfl, by go_num, Lib.hid (by rw [List.length_set]; exact Hl.out), Lib.hid (O.out.set t z9).drew, Lib.hid R, Lib.hid G, A0, Lib.hid V, by show w1.heap.size ≤ (w4.setCell _ _).heap.size; simp [World.setCell]; omega⟩
                    case measure => have := Hk.out; omega
                · go_wp2_with fail
                  go_roundg (8 - (r+1))
                  case rel => exact ⟨r+1, l, by omega, rfl, by go_num, Hl, O, R, G, A0, V, hwz⟩
                  case measure => have := Hr.out; omega
            · have hlri : ¬ ((r : Int) < 8) := by omega
              go_wp2_with fail
              refine (spec_odd B g _ 20 _ R.out (by omega) (by omega)).mono ?_
              rintro e w21 ⟨x21, rfl, hr, hgw, -⟩
              have O := Lib.hid (O.out.near hgw (by omega))
              have G := Lib.hid (grown_trans' G.out hgw)
              have q21 := hgw.size
              have hll := Hl.out
              have hgs := G.out.size
              have ho1 : ∀ q, (Value.slice ao k co).ownBlock = some q → q < w21.heap.size := fun q hq => (O.out.lt q hq).2
              clear hr hgw
              cases x21
              · have Hl2 := Lib.hid hll
                clear hll
                go_wp2_with fail
                go_ret
                exact ⟨_, l, rfl, O.out.base (by omega), by have := Hl2.out; omega, G.out⟩
              · have Hl2 := Lib.hid hll
                clear hll
                have hw2b : w1.heap.size ≤ w21.heap.size := by omega
                go_wp2_with (at_builtin; refine wpl_appI _ rfl (.tmp 77) (.tmp 78) rfl w1.heap.size 0 (.slice ao k co) l rfl (O.out.alloc _) (.slice (some ⟨w21.heap.size, 0, none⟩) 1 1) [0] rfl ((Ints.lit w21 0).base (Nat.zero_le _)) (by rw [Hl2.out]; simp; omega) (by simp; omega) ?_; intro v9 w9 hv9 hg9)
                go_ret
                exact ⟨_, l ++ [0], rfl, hv9.base (by omega), by have := Hl2.out; simp; omega, grown_new' G.out hg9 (fun q hq => by have := (O.out.lt q hq).1; omega)⟩
      · go_wp2_with fail
        refine (spec_odd B g _ 20 _ R.out (by omega) (by omega)).mono ?_
        rintro e w21 ⟨x21, rfl, hr, hgw, -⟩
        have O := Lib.hid (O.out.near hgw (by omega))
        have G := Lib.hid (grown_trans' G.out hgw)
        have q21 := hgw.size
        have hll := Hl.out
        have hgs := G.out.size
        have ho1 : ∀ q, (Value.slice ao k co).ownBlock = some q → q < w21.heap.size := fun q hq => (O.out.lt q hq).2
        clear hr hgw
        cases x21
        · have Hl2 := Lib.hid hll
          clear hll
          go_wp2_with fail
          go_ret
          exact ⟨_, l, rfl, O.out.base (by omega), by have := Hl2.out; omega, G.out⟩
        · have Hl2 := Lib.hid hll
          clear hll
          have hw2b : w1.heap.size ≤ w21.heap.size := by omega
          go_wp2_with (at_builtin; refine wpl_appI _ rfl (.tmp 77) (.tmp 78) rfl w1.heap.size 0 (.slice ao k co) l rfl (O.out.alloc _) (.slice (some ⟨w21.heap.size, 0, none⟩) 1 1) [0] rfl ((Ints.lit w21 0).base (Nat.zero_le _)) (by rw [Hl2.out]; simp; omega) (by simp; omega) ?_; intro v9 w9 hv9 hg9)
          go_ret
          exact ⟨_, l ++ [0], rfl, hv9.base (by omega), by have := Hl2.out; simp; omega, grown_new' G.out hg9 (fun q hq => by have := (O.out.lt q hq).1; omega)⟩
def RetTimed (w : World) (g : Nat) : Ending → World → Prop := fun e w' => ∃ (v1 v2 : Value) (p : Pl) (l : List Int), e = .returned (.tuple #[.agg #[.int .i64 p.pts, v1], v2]) ∧ Bds w' w.heap.size v1 p.bs ∧ Ints w' w.heap.size v2 l ∧ p.bs.length ≤ 10 ∧ l.length ≤ 8 ∧ 0 ≤ p.pts ∧ p.pts ≤ 7 ∧ w.grownBy w' (some g)
set_option maxRecDepth 100000 in
set_option maxHeartbeats 8000000 in
theorem spec_l20Timed (B g m : Nat) (n : Int) (w : World) (h : Rd w B g m) (hm : m ≤ 80000) (hn : 0 ≤ n) :
    Calls Try.prog 81 #[.pointer (some ⟨g, 0, none⟩), .int .i64 n] w (RetTimed w g) := by
  have R := Lib.hid h
  have hgl := h.lt
  clear h
  go_enter Try.func81, Try.ntmps81
  go_wp2_with fail
  obtain ⟨W, hW, R0, hs, E⟩ := one_box w #[.int .i64 0, .slice none 0 0] 25
  rw [← hW.out]
  have G := Lib.hid (grown_of_ext (some g) E)
  have R := Lib.hid (R.out.ext E)
  clear E
  refine (spec_l20Plan B g m n W R.out (by omega) hn).mono ?_
  rintro e w1 ⟨bs, p, rfl, hbs, hl, h0, h7, hr, hgw⟩
  have R := Lib.hid hr
  have G := Lib.hid (grown_trans' G.out hgw)
  have R0 := R0.near hgw (by omega)
  have q1 := hgw.size
  obtain ⟨av, cv, rfl, -⟩ := hbs.open
  have V := Lib.hid hbs
  clear hbs hr hgw
  go_upto_region 2 with fail
  obtain ⟨w2, hw2, P0, hs2, E2⟩ := one_box w1 #[.int .i64 p.pts, .slice av p.bs.length cv] 25
  rw [← hw2.out]
  have R := Lib.hid (R.out.ext E2)
  have V := Lib.hid (V.out.ext E2)
  have R0 := R0.ext E2
  have G := Lib.hid (grown_ext' G.out E2)
  clear E2
  refine wp_region_held_drew (S := fun w' => w'.cell? ⟨w1.heap.size, 0, none⟩ = some (Value.int .i64 p.pts) ∧ w'.cell? ⟨w1.heap.size, 1, none⟩ = some (Value.slice av p.bs.length cv)) (by kernel_rfl) ?_ (fun hHeld => ?_)
  · exact ⟨P0.cell0 rfl, P0.cell0 rfl⟩
  have R := Lib.hid R.out.drew
  have G := Lib.hid (grown_drew' G.out)
  have V := Lib.hid V.out.drew
  have R0 := R0.drew
  have P0 := P0.drew
  obtain ⟨d, hd⟩ : ∃ d, Hid (d = w2.drew) := ⟨_, rfl⟩
  have qd : w2.heap.size ≤ d.heap.size := by rw [hd.out]; exact Nat.le_refl _
  rw [← hd.out] at R G V R0 P0 hHeld ⊢
  try simp only [Act.put, List.setIfInBounds_toArray, List.set_cons_zero, List.set_cons_succ]
  refine wpAnyH_take (i := 0) (v := ?_) rfl (by kernel_rfl) (by kernel_rfl) (by kernel_rfl) (fun _ _ _ h => h) (Or.inl ⟨by rfl, fun w' hS' => ?_⟩) (by assumption) ?_
  rotate_left
  · (try dsimp only at hS'); go_simp; (try rw [if_pos (by omega)]); try with_reducible rfl
  try simp only [Act.put, List.getElem_toArray, List.getElem_cons_zero, List.getElem_cons_succ, List.setIfInBounds_toArray, List.set_cons_zero, List.set_cons_succ]
  refine wpAnyH_take (i := 1) (v := ?_) rfl (by kernel_rfl) (by kernel_rfl) (by kernel_rfl) (fun _ _ _ h => h) (Or.inl ⟨by rfl, fun w' hS' => ?_⟩) (by assumption) ?_
  rotate_left
  · (try dsimp only at hS'); go_simp; (try rw [if_pos (by omega)]); try with_reducible rfl
  try simp only [Act.put, List.getElem_toArray, List.getElem_cons_zero, List.getElem_cons_succ, List.setIfInBounds_toArray, List.set_cons_zero, List.set_cons_succ]
  refine wpAnyH_take (i := 2) (v := ?_) rfl (by kernel_rfl) (by kernel_rfl) (by kernel_rfl) (fun _ _ _ h => h) (Or.inl ⟨by rfl, fun w' hS' => ?_⟩) (by assumption) ?_
  rotate_left
  · (try dsimp only at hS'); go_simp; (try rw [if_pos (by omega)]); try with_reducible rfl
  try simp only [Act.put, List.getElem_toArray, List.getElem_cons_zero, List.getElem_cons_succ, List.setIfInBounds_toArray, List.set_cons_zero, List.set_cons_succ]
  refine wpAnyH_ready (rs := [3]) (by kernel_rfl) (by simp) ?_
  refine AllReadyH.cons rfl (fun K' hK => ?_) AllReadyH.nil
  refine if_yes (by rfl) ?_
  try simp only [Act.put, List.getElem_toArray, List.getElem_cons_zero, List.getElem_cons_succ, List.setIfInBounds_toArray, List.set_cons_zero, List.set_cons_succ]
  go_simp
  refine (spec_l20Times B g (m + 200) w.heap.size p _ _ R.out (by omega) (V.out.base (by omega)) (by omega) (by omega) h0 h7).mono ?_
  rintro e u9 ⟨v9, l, rfl, ho, hl8, hgw⟩
  have G := Lib.hid (grown_trans' G.out hgw)
  have V := Lib.hid (V.out.near hgw (by omega))
  have R0 := R0.near hgw (by omega)
  have P0 := P0.near hgw (by omega)
  have O := Lib.hid ho
  obtain ⟨ao, co, rfl, -⟩ := ho.open
  clear hgw ho
  go_wp2_with fail
  refine hK.out _ _ ?_ (fun hHeld => ?_)
  · exact ⟨P0.cell0 rfl, P0.cell0 rfl⟩
  clear hK K'
  try simp only [Act.put, List.setIfInBounds_toArray, List.set_cons_zero, List.set_cons_succ]
  obtain ⟨rc0, rz0⟩ := (R0).rules; have rl0 := (R0).lt
  refine wpAnyH_ready (rs := [4]) (by kernel_rfl) (by simp) ?_
  refine AllReadyH.cons rfl (fun K' hK => ?_) AllReadyH.nil
  refine if_yes (by rfl) ?_
  try simp only [Act.put, List.getElem_toArray, List.getElem_cons_zero, List.getElem_cons_succ, List.setIfInBounds_toArray, List.set_cons_zero, List.set_cons_succ]
  go_simp
  have P0 := (P0.far (p := ⟨w.heap.size, 0, none⟩) (by dsimp only; omega) (.int .i64 p.pts)).far (p := ⟨w.heap.size, 1, none⟩) (by dsimp only; omega) (.slice av p.bs.length cv)
  have R0 := (R0.set 0 (.int .i64 p.pts)).set 1 (.slice av p.bs.length cv)
  have V := Lib.hid ((V.out.low (p := ⟨w.heap.size, 0, none⟩) (by dsimp only; omega) (.int .i64 p.pts)).low (p := ⟨w.heap.size, 1, none⟩) (by dsimp only; omega) (.slice av p.bs.length cv))
  have O := Lib.hid ((O.out.low (p := ⟨w.heap.size, 0, none⟩) (by dsimp only; omega) (.int .i64 p.pts)).low (p := ⟨w.heap.size, 1, none⟩) (by dsimp only; omega) (.slice av p.bs.length cv))
  have G := Lib.hid (grown_set' (k := w.heap.size) (i := 1) (grown_set' (k := w.heap.size) (i := 0) G.out (Nat.le_refl _) (.int .i64 p.pts)) (Nat.le_refl _) (.slice av p.bs.length cv))
  obtain ⟨wf, hwf⟩ : ∃ wf, Hid (wf = (u9.setCell ⟨w.heap.size, 0, none⟩ (.int .i64 p.pts)).setCell ⟨w.heap.size, 1, none⟩ (.slice av p.bs.length cv)) := ⟨_, rfl⟩
  have qf : u9.heap.size ≤ wf.heap.size := by rw [hwf.out]; simp [World.setCell]
  rw [← hwf.out] at P0 R0 G V O ⊢
  clear rc0 rz0 rl0
  refine hK.out _ _ ?_ (fun hHeld => ?_)
  · exact ⟨P0.cell0 rfl, P0.cell0 rfl⟩
  clear hK K'
  try simp only [Act.put, List.setIfInBounds_toArray, List.set_cons_zero, List.set_cons_succ]
  refine wpAnyH_take (i := 5) (v := ?_) rfl (by kernel_rfl) (by kernel_rfl) (by kernel_rfl) (fun _ _ _ h => h) (Or.inl ⟨by rfl, fun w' hS' => ?_⟩) (by assumption) ?_
  rotate_left
  · (try dsimp only at hS'); go_simp; (try rw [if_pos (by omega)]); try with_reducible rfl
  try simp only [Act.put, List.getElem_toArray, List.getElem_cons_zero, List.getElem_cons_succ, List.setIfInBounds_toArray, List.set_cons_zero, List.set_cons_succ]
  refine wpAnyH_done (by kernel_rfl) ?_ _
  try simp only [Act.put, List.setIfInBounds_toArray, List.set_cons_zero, List.set_cons_succ]
  obtain ⟨rc0, rz0⟩ := (R0).rules; have rl0 := (R0).lt
  go_wp2_with fail
  refine bodyPost_ret (v := .tuple #[.agg #[.int .i64 p.pts, .slice av p.bs.length cv], .slice ao l.length co]) (by simp [results, Try.results81, go_sem, *]) rfl ?_
  exact ⟨_, _, p, l, rfl, V.out.base (by omega), O.out.base (by omega), hl, hl8, h0, h7, G.out⟩
def RetTimedD (w : World) : Ending → World → Prop := fun e w' => ∃ (v1 v2 : Value) (p : Pl) (l : List Int), e = .returned (.tuple #[.agg #[.int .i64 p.pts, v1], v2]) ∧ Bds w' w.heap.size v1 p.bs ∧ Ints w' w.heap.size v2 l ∧ p.bs.length ≤ 10 ∧ l.length ≤ 8 ∧ 0 ≤ p.pts ∧ p.pts ≤ 7 ∧ Below w.heap.size w w'
set_option maxHeartbeats 2000000 in
theorem spec_DrawKeepsOk (a : Option Addr) (n cap : Nat) (w : World) (h : Byt w w.heap.size a n cap) : Calls Try.prog 45 #[.slice a n cap] w (RetTimedD w) := by
  have H := Lib.hid h
  clear h
  go_enter Try.func45, Try.ntmps45
  go_wp2_with fail
  obtain ⟨W, hW, B0, hs, E⟩ := one_box w #[.int .i64 0, .slice none 0 0] 25
  rw [← hW.out]
  refine (spec_l20Open a n cap W w.heap.size (by omega) (H.out.below E)).mono ?_
  rintro e w1 ⟨rfl, hR, hb1⟩
  have E := ext_trans E hb1
  have B0 := B0.ext hb1
  have R := Lib.hid hR
  have q1 := hb1.size
  clear hR hb1
  go_wp2_with fail
  refine (spec_l20Timed w.heap.size W.heap.size 0 12 w1 R.out (by omega) (by omega)).mono ?_
  rintro e w2 ⟨v1, v2, p, l, rfl, h1, h2, hl, hl8, h0, h7, hg⟩
  have E := ext_grown E hg (fun k hk => by cases hk; omega)
  have B0 := B0.grown hg (fun e => by injection e with e; omega)
  have q2 := hg.size
  obtain ⟨a1, c1, rfl, -⟩ := h1.open
  obtain ⟨a2, c2, rfl, -⟩ := h2.open
  have V1 := Lib.hid h1; have V2 := Lib.hid h2
  clear h1 h2 hg
  obtain ⟨rc2, rz2⟩ := (B0).rules; have rl2 := (B0).lt
  go_wp2_with fail
  refine bodyPost_ret (v := .tuple #[.agg #[.int .i64 p.pts, .slice a1 p.bs.length c1], .slice a2 l.length c2]) (by simp [results, Try.results45, go_sem, *]) rfl ?_
  exact ⟨_, _, p, l, rfl, ((V1.out.low (by dsimp only; omega) _).low (by dsimp only; omega) _).base (by omega), ((V2.out.low (by dsimp only; omega) _).low (by dsimp only; omega) _).base (by omega), hl, hl8, h0, h7, ext_set (ext_set E (Nat.le_refl _) _) (Nat.le_refl _) _⟩
end Go.Proofs.Ytcjdodjjdchnaaa
