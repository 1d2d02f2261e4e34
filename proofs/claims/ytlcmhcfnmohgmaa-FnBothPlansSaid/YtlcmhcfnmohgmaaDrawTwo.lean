/- The draw of two plans. No condition but that the reader can be read. -/
import Derived.Test.YtlcmhcfnmohgmaaDrawFew
import Derived.Test.YtlcmhcfnmohgmaaPlanOk
import Derived.Test.YtlcmhcfnmohgmaaTail
import Derived.Deep.Cut
namespace Go.Proofs.Ytlcmhcfnmohgmaa
open Go.RowKit
set_option linter.unusedVariables false
set_option linter.unusedSimpArgs false
def RetTwo (w : World) (g : Nat) : Ending → World → Prop := fun e w' => ∃ (bs bs' : Value) (p q : Pl), e = .returned (.tuple #[.agg #[.int .i64 p.pts, bs], .agg #[.int .i64 q.pts, bs']]) ∧ Bds w' w.heap.size bs p.bs ∧ Bds w' w.heap.size bs' q.bs ∧ p.bs.length ≤ 10 ∧ q.bs.length ≤ 10 ∧ 0 ≤ p.pts ∧ p.pts ≤ 7 ∧ 0 ≤ q.pts ∧ q.pts ≤ 7 ∧ w.grownBy w' (some g)
/-- the four stores that end the draw -/
theorem two_stores {w u : World} {g : Nat} {p q : Pl} {av bv : Option Addr} {cv dv : Nat} (G : w.grownBy u (some g)) (V : Bds u (w.heap.size + 1 + 1) (.slice av p.bs.length cv) p.bs) (Q : Bds u (w.heap.size + 1 + 1) (.slice bv q.bs.length dv) q.bs)
    (R0 : Box u w.heap.size 25 #[.int .i64 0, .slice none 0 0]) (R1 : Box u (w.heap.size + 1) 25 #[.int .i64 0, .slice none 0 0]) :
    ∃ wf, Hid (wf = (((u.setCell ⟨w.heap.size, 0, none⟩ (.int .i64 p.pts)).setCell ⟨w.heap.size, 1, none⟩ (.slice av p.bs.length cv)).setCell ⟨w.heap.size + 1, 0, none⟩ (.int .i64 q.pts)).setCell ⟨w.heap.size + 1, 1, none⟩ (.slice bv q.bs.length dv)) ∧
      Box wf w.heap.size 25 #[.int .i64 p.pts, .slice av p.bs.length cv] ∧ Box wf (w.heap.size + 1) 25 #[.int .i64 q.pts, .slice bv q.bs.length dv] ∧ Bds wf w.heap.size (.slice av p.bs.length cv) p.bs ∧ Bds wf w.heap.size (.slice bv q.bs.length dv) q.bs ∧ w.grownBy wf (some g) := by
  refine ⟨_, rfl, ?_, ?_, ?_, ?_, ?_⟩
  · exact (((R0.set 0 (.int .i64 p.pts)).set 1 (.slice av p.bs.length cv)).far (p := ⟨w.heap.size + 1, 0, none⟩) (by dsimp only; omega) _).far (p := ⟨w.heap.size + 1, 1, none⟩) (by dsimp only; omega) _
  · exact (((R1.far (p := ⟨w.heap.size, 0, none⟩) (by dsimp only; omega) _).far (p := ⟨w.heap.size, 1, none⟩) (by dsimp only; omega) _).set 0 (.int .i64 q.pts)).set 1 (.slice bv q.bs.length dv)
  · exact ((((V.low (by dsimp only; omega) _).low (by dsimp only; omega) _).low (by dsimp only; omega) _).low (by dsimp only; omega) _).base (by omega)
  · exact ((((Q.low (by dsimp only; omega) _).low (by dsimp only; omega) _).low (by dsimp only; omega) _).low (by dsimp only; omega) _).base (by omega)
  · exact grown_set' (grown_set' (grown_set' (grown_set' G (Nat.le_refl _) _) (Nat.le_refl _) _) (by omega) _) (by omega) _
set_option maxRecDepth 100000 in
set_option maxHeartbeats 8000000 in
theorem spec_l20Plans (B g m : Nat) (w : World) (h : Rd w B g m) (hm : m ≤ 80000) :
    Calls Try.prog 77 #[.pointer (some ⟨g, 0, none⟩)] w (RetTwo w g) := by
  have R := Lib.hid h
  have hgl := h.lt
  clear h
  go_enter Try.func77, Try.ntmps77
  go_wp2_with fail
  obtain ⟨W, hW, R0, R1, hs, E⟩ := two_boxes w #[.int .i64 0, .slice none 0 0] #[.int .i64 0, .slice none 0 0] 25 25
  rw [← hW.out]
  have G := Lib.hid (grown_of_ext (some g) E)
  have R := Lib.hid (R.out.ext E)
  clear E
  refine (spec_l20Few B g m 14 _ R.out (by omega) (by omega)).mono ?_
  rintro e w1 ⟨bs, p, rfl, hbs, hl, h0, h7, hr, hg⟩
  have G := Lib.hid (grown_trans' G.out hg)
  have R0 := R0.near hg (by omega); have R1 := R1.near hg (by omega)
  have q1 := hg.size
  have R := Lib.hid hr
  obtain ⟨av, cv, rfl, -⟩ := hbs.open
  have V := Lib.hid (hbs.base (base' := w.heap.size + 1 + 1) (by omega))
  clear hbs hr hg
  go_wp2_with fail
  obtain ⟨w2, hw2, P0, hs2, E2⟩ := one_box w1 #[.int .i64 p.pts, .slice av p.bs.length cv] 25
  rw [← hw2.out]
  have R := Lib.hid (R.out.ext E2); have V := Lib.hid (V.out.ext E2); have R0 := R0.ext E2; have R1 := R1.ext E2
  have G := Lib.hid (grown_ext' G.out E2)
  clear E2
  refine (spec_l20Few B g _ 14 _ R.out (by omega) (by omega)).mono ?_
  rintro e w3 ⟨bs, q, rfl, hbs, hl', h0', h7', hr, hg⟩
  have G := Lib.hid (grown_trans' G.out hg)
  have R0 := R0.near hg (by omega); have R1 := R1.near hg (by omega); have P0 := P0.near hg (by omega)
  have V := Lib.hid (V.out.near hg (by omega))
  have q3 := hg.size
  have R := Lib.hid hr
  obtain ⟨bv, dv, rfl, -⟩ := hbs.open
  have Q := Lib.hid (hbs.base (base' := w.heap.size + 1 + 1) (by omega))
  clear hbs hr hg
  go_upto_region 3 with fail
  obtain ⟨w4, hw4, Q0, hs4, E4⟩ := one_box w3 #[.int .i64 q.pts, .slice bv q.bs.length dv] 25
  rw [← hw4.out]
  have R := Lib.hid (R.out.ext E4); have V := Lib.hid (V.out.ext E4); have Q := Lib.hid (Q.out.ext E4); have R0 := R0.ext E4; have R1 := R1.ext E4; have P0 := P0.ext E4
  have G := Lib.hid (grown_ext' G.out E4)
  clear E4
  by_cases hpq : p.pts = q.pts
  · have he : (p.pts == q.pts) = true := by simp [hpq]
    have Hpq := Lib.hid hpq
    clear hpq
    obtain ⟨rc2, rz2⟩ := (R0).rules; have rl2 := (R0).lt
    obtain ⟨rc3, rz3⟩ := (R1).rules; have rl3 := (R1).lt
    obtain ⟨rc4, rz4⟩ := (P0).rules; have rl4 := (P0).lt
    obtain ⟨rc5, rz5⟩ := (Q0).rules; have rl5 := (Q0).lt
    go_wp2_with fail
    go_region
    obtain ⟨wf, hwf, F0, F1, VF, QF, GF⟩ := two_stores G.out V.out Q.out R0 R1
    rw [← hwf.out]
    clear rc2 rz2 rl2 rc3 rz3 rl3 rc4 rz4 rl4 rc5 rz5 rl5
    obtain ⟨wd, hwd⟩ : ∃ d, Hid (d = wf.drew) := ⟨_, rfl⟩
    have F0 := F0.drew; have F1 := F1.drew; have VF := Lib.hid VF.drew; have QF := Lib.hid QF.drew; have GF := Lib.hid (grown_drew' GF)
    rw [← hwd.out] at F0 F1 VF QF GF ⊢
    obtain ⟨rc2, rz2⟩ := (F0).rules; have rl2 := (F0).lt
    obtain ⟨rc3, rz3⟩ := (F1).rules; have rl3 := (F1).lt
    go_wp2_with fail
    refine bodyPost_ret (v := .tuple #[.agg #[.int .i64 p.pts, .slice av p.bs.length cv], .agg #[.int .i64 q.pts, .slice bv q.bs.length dv]]) (by simp [results, Try.results77, go_sem, *]) rfl ?_
    exact ⟨_, _, p, q, rfl, VF.out, QF.out, hl, hl', h0, h7, h0', h7', GF.out⟩
  · have he : (p.pts == q.pts) = false := beq_false_of_ne hpq
    have Hpq := Lib.hid hpq
    clear hpq
    obtain ⟨rc4, rz4⟩ := (P0).rules; have rl4 := (P0).lt
    obtain ⟨rc5, rz5⟩ := (Q0).rules; have rl5 := (Q0).lt
    go_wp2_with fail
    refine (spec_pick B g _ 9 _ R.out (by omega)).mono ?_
    rintro e w5 ⟨y1, rfl, -, -, hr, hgw, -⟩
    have R := Lib.hid hr
    have V := Lib.hid (V.out.near hgw (by omega)); have Q := Lib.hid (Q.out.near hgw (by omega))
    have R0 := R0.near hgw (by omega); have R1 := R1.near hgw (by omega); have P0 := P0.near hgw (by omega); have Q0 := Q0.near hgw (by omega)
    have G := Lib.hid (grown_trans' G.out hgw)
    have q5 := hgw.size
    clear hr hgw rc4 rz4 rl4 rc5 rz5 rl5
    by_cases hy : y1 = 0
    · have he2 : (y1 == 0) = true := by simp [hy]
      have Hy := Lib.hid hy
      clear hy
      obtain ⟨rc2, rz2⟩ := (R0).rules; have rl2 := (R0).lt
      obtain ⟨rc3, rz3⟩ := (R1).rules; have rl3 := (R1).lt
      obtain ⟨rc4, rz4⟩ := (P0).rules; have rl4 := (P0).lt
      obtain ⟨rc5, rz5⟩ := (Q0).rules; have rl5 := (Q0).lt
      go_wp2_with fail
      go_region
      obtain ⟨wf, hwf, F0, F1, VF, QF, GF⟩ := two_stores G.out V.out Q.out R0 R1
      rw [← hwf.out]
      clear rc2 rz2 rl2 rc3 rz3 rl3 rc4 rz4 rl4 rc5 rz5 rl5
      obtain ⟨wd, hwd⟩ : ∃ d, Hid (d = wf.drew) := ⟨_, rfl⟩
      have F0 := F0.drew; have F1 := F1.drew; have VF := Lib.hid VF.drew; have QF := Lib.hid QF.drew; have GF := Lib.hid (grown_drew' GF)
      rw [← hwd.out] at F0 F1 VF QF GF ⊢
      obtain ⟨rc2, rz2⟩ := (F0).rules; have rl2 := (F0).lt
      obtain ⟨rc3, rz3⟩ := (F1).rules; have rl3 := (F1).lt
      go_wp2_with fail
      refine bodyPost_ret (v := .tuple #[.agg #[.int .i64 p.pts, .slice av p.bs.length cv], .agg #[.int .i64 q.pts, .slice bv q.bs.length dv]]) (by simp [results, Try.results77, go_sem, *]) rfl ?_
      exact ⟨_, _, p, q, rfl, VF.out, QF.out, hl, hl', h0, h7, h0', h7', GF.out⟩
    · have he2 : (y1 == 0) = false := beq_false_of_ne hy
      have Hy := Lib.hid hy
      clear hy
      obtain ⟨rc4, rz4⟩ := (P0).rules; have rl4 := (P0).lt
      obtain ⟨rc5, rz5⟩ := (Q0).rules; have rl5 := (Q0).lt
      go_wp2_with fail
      refine (spec_PlanOk p _ _ (V.out.base (Nat.zero_le _))).mono ?_
      rintro e w6 ⟨rfl, hb6⟩
      have R := Lib.hid (R.out.ext hb6); have V := Lib.hid (V.out.ext hb6); have Q := Lib.hid (Q.out.ext hb6); have R0 := R0.ext hb6; have R1 := R1.ext hb6; have P0 := P0.ext hb6; have Q0 := Q0.ext hb6
      have G := Lib.hid (grown_ext' G.out hb6)
      clear hb6 rc4 rz4 rl4 rc5 rz5 rl5
      cases hpo : p.ok
      · clear hpo
        obtain ⟨rc2, rz2⟩ := (R0).rules; have rl2 := (R0).lt
        obtain ⟨rc3, rz3⟩ := (R1).rules; have rl3 := (R1).lt
        obtain ⟨rc4, rz4⟩ := (P0).rules; have rl4 := (P0).lt
        obtain ⟨rc5, rz5⟩ := (Q0).rules; have rl5 := (Q0).lt
        go_wp2_with fail
        go_region
        obtain ⟨wf, hwf, F0, F1, VF, QF, GF⟩ := two_stores G.out V.out Q.out R0 R1
        rw [← hwf.out]
        clear rc2 rz2 rl2 rc3 rz3 rl3 rc4 rz4 rl4 rc5 rz5 rl5
        obtain ⟨wd, hwd⟩ : ∃ d, Hid (d = wf.drew) := ⟨_, rfl⟩
        have F0 := F0.drew; have F1 := F1.drew; have VF := Lib.hid VF.drew; have QF := Lib.hid QF.drew; have GF := Lib.hid (grown_drew' GF)
        rw [← hwd.out] at F0 F1 VF QF GF ⊢
        obtain ⟨rc2, rz2⟩ := (F0).rules; have rl2 := (F0).lt
        obtain ⟨rc3, rz3⟩ := (F1).rules; have rl3 := (F1).lt
        go_wp2_with fail
        refine bodyPost_ret (v := .tuple #[.agg #[.int .i64 p.pts, .slice av p.bs.length cv], .agg #[.int .i64 q.pts, .slice bv q.bs.length dv]]) (by simp [results, Try.results77, go_sem, *]) rfl ?_
        exact ⟨_, _, p, q, rfl, VF.out, QF.out, hl, hl', h0, h7, h0', h7', GF.out⟩
      clear hpo
      obtain ⟨rc4, rz4⟩ := (P0).rules; have rl4 := (P0).lt
      obtain ⟨rc5, rz5⟩ := (Q0).rules; have rl5 := (Q0).lt
      go_wp2_with fail
      refine (spec_PlanOk q _ _ (Q.out.base (Nat.zero_le _))).mono ?_
      rintro e w7 ⟨rfl, hb7⟩
      have R := Lib.hid (R.out.ext hb7); have V := Lib.hid (V.out.ext hb7); have Q := Lib.hid (Q.out.ext hb7); have R0 := R0.ext hb7; have R1 := R1.ext hb7; have P0 := P0.ext hb7; have Q0 := Q0.ext hb7
      have G := Lib.hid (grown_ext' G.out hb7)
      clear hb7 rc4 rz4 rl4 rc5 rz5 rl5
      cases hqo : q.ok
      · clear hqo
        obtain ⟨rc2, rz2⟩ := (R0).rules; have rl2 := (R0).lt
        obtain ⟨rc3, rz3⟩ := (R1).rules; have rl3 := (R1).lt
        obtain ⟨rc4, rz4⟩ := (P0).rules; have rl4 := (P0).lt
        obtain ⟨rc5, rz5⟩ := (Q0).rules; have rl5 := (Q0).lt
        go_wp2_with fail
        go_region
        obtain ⟨wf, hwf, F0, F1, VF, QF, GF⟩ := two_stores G.out V.out Q.out R0 R1
        rw [← hwf.out]
        clear rc2 rz2 rl2 rc3 rz3 rl3 rc4 rz4 rl4 rc5 rz5 rl5
        obtain ⟨wd, hwd⟩ : ∃ d, Hid (d = wf.drew) := ⟨_, rfl⟩
        have F0 := F0.drew; have F1 := F1.drew; have VF := Lib.hid VF.drew; have QF := Lib.hid QF.drew; have GF := Lib.hid (grown_drew' GF)
        rw [← hwd.out] at F0 F1 VF QF GF ⊢
        obtain ⟨rc2, rz2⟩ := (F0).rules; have rl2 := (F0).lt
        obtain ⟨rc3, rz3⟩ := (F1).rules; have rl3 := (F1).lt
        go_wp2_with fail
        refine bodyPost_ret (v := .tuple #[.agg #[.int .i64 p.pts, .slice av p.bs.length cv], .agg #[.int .i64 q.pts, .slice bv q.bs.length dv]]) (by simp [results, Try.results77, go_sem, *]) rfl ?_
        exact ⟨_, _, p, q, rfl, VF.out, QF.out, hl, hl', h0, h7, h0', h7', GF.out⟩
      clear hqo
      obtain ⟨rc4, rz4⟩ := (P0).rules; have rl4 := (P0).lt
      go_wp2_with fail
      have V7 := V
      obtain ⟨w8, hw8, O0, hs8, E8⟩ := one_box w7 #[.int .i64 p.pts, .slice none 0 0] 25
      rw [← hw8.out]
      have q7 := Q0.lt
      have VO := V7.out.lt
      have R := Lib.hid (R.out.ext E8); have V := Lib.hid (V.out.ext E8); have R0 := R0.ext E8; have R1 := R1.ext E8; have P0 := P0.ext E8
      have G := Lib.hid (grown_ext' G.out E8)
      clear E8 rc4 rz4 rl4 Q0
      obtain ⟨O, hO⟩ : ∃ q, Hid (q = w7.heap.size) := ⟨_, rfl⟩
      have hO1 : w.heap.size + 2 ≤ O ∧ w1.heap.size < O := by rw [hO.out]; omega
      rw [← hO.out] at O0 hs8 VO ⊢
      have VO := Lib.hid VO
      clear V7
      obtain ⟨mm, hmm⟩ : ∃ q : Nat, q ≤ 90000 ∧ Hid (Rd w8 B g q) := ⟨m + 500, by omega, Lib.hid (R.out.mono (by omega))⟩
      clear R
      go_loopg [7] p.bs.length (fun mt kk wr => ∃ (k : Nat) (tl : List Bd) (vo : Value), k ≤ p.bs.length ∧ mt = p.bs.length - k ∧ kk = .int .i64 k ∧ tl.length ≤ k ∧ Box wr O 25 #[.int .i64 p.pts, vo] ∧ Hid (Bds wr (O + 1) vo tl) ∧ Hid (Rd wr B g (mm + 2 * k)) ∧ Hid (w.grownBy wr (some g)) ∧
        Hid (Bds wr (w.heap.size + 1 + 1) (.slice av p.bs.length cv) p.bs) ∧ Box wr w.heap.size 25 #[.int .i64 0, .slice none 0 0] ∧ Box wr (w.heap.size + 1) 25 #[.int .i64 0, .slice none 0 0] ∧ Box wr w1.heap.size 25 #[.int .i64 p.pts, .slice av p.bs.length cv] ∧ O + 1 ≤ wr.heap.size)
      case atStart => exact ⟨0, [], _, by omega, by omega, rfl, Nat.le_refl _, O0, Bds.nil _ _, hmm.2, G, V, R0, R1, P0, by omega⟩
      case round =>
        clear O0 G V R0 R1 P0
        obtain ⟨k, tl, vo, hk, hgk, rfl, htl, O0, T, R, G, V, R0, R1, P0, hsz⟩ := hrel
        have Hk := Lib.hid hgk
        clear hgk
        obtain ⟨ao, co, rfl, -⟩ := T.out.open
        have hTl := Lib.hid T.out.lt
        obtain ⟨rc4, rz4⟩ := (P0).rules; have rl4 := (P0).lt
        by_cases hlk : k < p.bs.length
        · obtain ⟨gv, hav, _, hgv, _, c0, c1, c2⟩ := V.out.at_ hlk
          subst hav
          obtain ⟨b, hbb⟩ : ∃ b, Hid (b = p.bs.getD k Bd.z) := ⟨_, rfl⟩
          rw [← hbb.out] at c0 c1 c2
          obtain ⟨f, t, x⟩ := b
          dsimp only at c0 c1 c2
          go_wp2_with fail
          obtain ⟨w9, hw9, B0, hs9, E9⟩ := one_box wr #[.int .i64 f, .int .i64 t, .int .i64 x] 48
          rw [← hw9.out]
          have O0 := O0.ext E9; have T := Lib.hid (T.out.ext E9); have R := Lib.hid (R.out.ext E9); have V := Lib.hid (V.out.ext E9); have R0 := R0.ext E9; have R1 := R1.ext E9; have P0 := P0.ext E9
          have G := Lib.hid (grown_ext' G.out E9)
          clear E9 c0 c1 c2 rc4 rz4 rl4
          refine (spec_pick B g _ 3 _ R.out (by omega)).mono ?_
          rintro e u1 ⟨y2, rfl, -, -, hr, hgw, -⟩
          have R := Lib.hid hr
          have hgO : g < O := by omega
          have V := Lib.hid (V.out.near hgw (by omega)); have T := Lib.hid (T.out.near hgw (by omega))
          have R0 := R0.near hgw (by omega); have R1 := R1.near hgw (by omega); have P0 := P0.near hgw (by omega); have O0 := O0.near hgw (by omega); have B0 := B0.near hgw (by omega)
          have G := Lib.hid (grown_trans' G.out hgw)
          have qu1 := hgw.size
          clear hr hgw
          by_cases hy2 : 0 < y2
          · go_wp2_with fail
            refine wp_region_tail 17 (by kernel_rfl) (by kernel_rfl) (fun w' => w'.cell? ⟨O, 1, none⟩ = some (.slice ao tl.length co) ∧ w'.cell? ⟨wr.heap.size, 0, none⟩ = some (.int .i64 f) ∧ w'.cell? ⟨wr.heap.size, 1, none⟩ = some (.int .i64 t) ∧ w'.cell? ⟨wr.heap.size, 2, none⟩ = some (.int .i64 x)) ?_ ?_
            · exact ⟨O0.cell0 rfl, B0.cell0 rfl, B0.cell0 rfl, B0.cell0 rfl⟩
            intro hHeld
            obtain ⟨d, hd⟩ : ∃ d, Hid (d = u1.drew) := ⟨_, rfl⟩
            have qd : u1.heap.size ≤ d.heap.size := by rw [hd.out]; exact Nat.le_refl _
            have O0 := O0.drew; have B0 := B0.drew; have R0 := R0.drew; have R1 := R1.drew; have P0 := P0.drew
            have T := Lib.hid T.out.drew; have R := Lib.hid R.out.drew; have V := Lib.hid V.out.drew; have G := Lib.hid (grown_drew' G.out)
            rw [← hd.out] at O0 B0 R0 R1 P0 T R V G hHeld ⊢
            simp only [List.pop_toArray, List.dropLast]
            refine wpAnyH_take (i := 0) (v := ?_) rfl (by kernel_rfl) (by kernel_rfl) (by kernel_rfl) (fun _ _ _ h => h) (Or.inl ⟨by rfl, fun w' hS' => ?_⟩) (by assumption) ?_
            rotate_left
            · (try dsimp only at hS'); go_simp; (try rw [if_pos (by omega)]); try with_reducible rfl
            try simp only [Act.put, List.getElem_toArray, List.getElem_cons_zero, List.getElem_cons_succ, List.setIfInBounds_toArray, List.set_cons_zero, List.set_cons_succ]
            refine wpAnyH_take (i := 1) (v := ?_) rfl (by kernel_rfl) (by kernel_rfl) (by kernel_rfl) (fun _ _ _ h => h) (Or.inl ⟨by rfl, fun w' hS' => ?_⟩) (by assumption) ?_
            rotate_left
            · (try dsimp only at hS'); go_simp; (try rw [if_pos (by omega)]); try with_reducible rfl
            try simp only [Act.put, List.getElem_toArray, List.getElem_cons_zero, List.getElem_cons_succ, List.setIfInBounds_toArray, List.set_cons_zero, List.set_cons_succ]
            refine wpAnyH_take (i := 2) (v := ?_) rfl (by kernel_rfl) (by kernel_rfl) (by kernel_rfl) (fun _ _ _ h => h) (Or.inl ⟨by rfl, fun w' hS' => ?_⟩) (by assumption) ?_
            rotate_left
            · (try dsimp only at hS'); go_simp; (try rw [if_pos (by omega)]); try with_reducible rfl
            try simp only [Act.put, List.getElem_toArray, List.getElem_cons_zero, List.getElem_cons_succ, List.setIfInBounds_toArray, List.set_cons_zero, List.set_cons_succ]
            refine wpAnyH_take (i := 3) (v := ?_) rfl (by kernel_rfl) (by kernel_rfl) (by kernel_rfl) (fun _ _ _ h => h) (Or.inl ⟨by rfl, fun w' hS' => ?_⟩) (by assumption) ?_
            rotate_left
            · (try dsimp only at hS'); go_simp; (try rw [if_pos (by omega)]); try with_reducible rfl
            try simp only [Act.put, List.getElem_toArray, List.getElem_cons_zero, List.getElem_cons_succ, List.setIfInBounds_toArray, List.set_cons_zero, List.set_cons_succ]
            refine wpAnyH_take (i := 4) (v := ?_) rfl (by kernel_rfl) (by kernel_rfl) (by kernel_rfl) (fun _ _ _ h => h) (Or.inl ⟨by rfl, fun w' hS' => ?_⟩) (by assumption) ?_
            rotate_left
            · (try dsimp only at hS'); go_simp; (try rw [if_pos (by omega)]); try with_reducible rfl
            try simp only [Act.put, List.getElem_toArray, List.getElem_cons_zero, List.getElem_cons_succ, List.setIfInBounds_toArray, List.set_cons_zero, List.set_cons_succ]
            refine wpAnyH_take (i := 5) (v := ?_) rfl (by kernel_rfl) (by kernel_rfl) (by kernel_rfl) (fun _ _ _ h => h) (Or.inl ⟨by rfl, fun w' hS' => ?_⟩) (by assumption) ?_
            rotate_left
            · (try dsimp only at hS'); go_simp; (try rw [if_pos (by omega)]); try with_reducible rfl
            try simp only [Act.put, List.getElem_toArray, List.getElem_cons_zero, List.getElem_cons_succ, List.setIfInBounds_toArray, List.set_cons_zero, List.set_cons_succ]
            refine wpAnyH_take (i := 6) (v := ?_) rfl (by kernel_rfl) (by kernel_rfl) (by kernel_rfl) (fun _ _ _ h => h) (Or.inl ⟨by rfl, fun w' hS' => ?_⟩) (by assumption) ?_
            rotate_left
            · (try dsimp only at hS'); go_simp; (try rw [if_pos (by omega)]); try with_reducible rfl
            try simp only [Act.put, List.getElem_toArray, List.getElem_cons_zero, List.getElem_cons_succ, List.setIfInBounds_toArray, List.set_cons_zero, List.set_cons_succ]
            refine wpAnyH_take (i := 7) (v := ?_) rfl (by kernel_rfl) (by kernel_rfl) (by kernel_rfl) (fun _ _ _ h => h) (Or.inl ⟨by rfl, fun w' hS' => ?_⟩) (by assumption) ?_
            rotate_left
            · (try dsimp only at hS'); go_simp; (try rw [if_pos (by omega)]); try with_reducible rfl
            try simp only [Act.put, List.getElem_toArray, List.getElem_cons_zero, List.getElem_cons_succ, List.setIfInBounds_toArray, List.set_cons_zero, List.set_cons_succ]
            refine wpAnyH_take (i := 8) (v := ?_) rfl (by kernel_rfl) (by kernel_rfl) (by kernel_rfl) (fun _ _ _ h => h) (Or.inl ⟨by rfl, fun w' hS' => ?_⟩) (by assumption) ?_
            rotate_left
            · (try dsimp only at hS'); go_simp; (try rw [if_pos (by omega)]); try with_reducible rfl
            try simp only [Act.put, List.getElem_toArray, List.getElem_cons_zero, List.getElem_cons_succ, List.setIfInBounds_toArray, List.set_cons_zero, List.set_cons_succ]
            refine wpAnyH_ready (rs := [9]) (by kernel_rfl) (by simp) ?_
            refine AllReadyH.cons rfl (fun K' hK => ?_) AllReadyH.nil
            refine if_yes (by rfl) ?_
            try simp only [Act.put, List.getElem_toArray, List.getElem_cons_zero, List.getElem_cons_succ, List.setIfInBounds_toArray, List.set_cons_zero, List.set_cons_succ]
            go_simp
            refine (spec_pick B g _ 4 _ R.out (by omega)).mono ?_
            rintro e u2 ⟨y3, rfl, -, -, hr, hgw, -⟩
            have R := Lib.hid hr
            have V := Lib.hid (V.out.near hgw (by omega)); have T := Lib.hid (T.out.near hgw (by omega))
            have R0 := R0.near hgw (by omega); have R1 := R1.near hgw (by omega); have P0 := P0.near hgw (by omega); have O0 := O0.near hgw (by omega); have B0 := B0.near hgw (by omega)
            have G := Lib.hid (grown_trans' G.out hgw)
            have qu2 := hgw.size
            clear hr hgw
            go_wp2_with fail
            refine hK.out _ _ ?_ (fun hHeld => ?_)
            · exact ⟨O0.cell0 rfl, B0.cell0 rfl, B0.cell0 rfl, B0.cell0 rfl⟩
            clear hK K'
            try simp only [Act.put, List.getElem_toArray, List.getElem_cons_zero, List.getElem_cons_succ, List.setIfInBounds_toArray, List.set_cons_zero, List.set_cons_succ]
            refine wpAnyH_take (i := 10) (v := ?_) rfl (by kernel_rfl) (by kernel_rfl) (by kernel_rfl) (fun _ _ _ h => h) (Or.inl ⟨by rfl, fun w' hS' => ?_⟩) (by assumption) ?_
            rotate_left
            · (try dsimp only at hS'); go_simp; (try rw [if_pos (by omega)]); try with_reducible rfl
            try simp only [Act.put, List.getElem_toArray, List.getElem_cons_zero, List.getElem_cons_succ, List.setIfInBounds_toArray, List.set_cons_zero, List.set_cons_succ]
            refine wpAnyH_take (i := 11) (v := ?_) rfl (by kernel_rfl) (by kernel_rfl) (by kernel_rfl) (fun _ _ _ h => h) (Or.inl ⟨by rfl, fun w' hS' => ?_⟩) (by assumption) ?_
            rotate_left
            · (try dsimp only at hS'); go_simp; (try rw [if_pos (by omega)]); try with_reducible rfl
            try simp only [Act.put, List.getElem_toArray, List.getElem_cons_zero, List.getElem_cons_succ, List.setIfInBounds_toArray, List.set_cons_zero, List.set_cons_succ]
            generalize IntKind.i64.wrap (IntKind.i64.wrap (x + y3) - 1) = z
            refine wpAnyH_take (i := 12) (v := ?_) rfl (by kernel_rfl) (by kernel_rfl) (by kernel_rfl) (fun _ _ _ h => h) (Or.inl ⟨by rfl, fun w' hS' => ?_⟩) (by assumption) ?_
            rotate_left
            · (try dsimp only at hS'); go_simp; (try rw [if_pos (by omega)]); try with_reducible rfl
            try simp only [Act.put, List.getElem_toArray, List.getElem_cons_zero, List.getElem_cons_succ, List.setIfInBounds_toArray, List.set_cons_zero, List.set_cons_succ]
            generalize (if 99 < z then (99 : Int) else z) = z2
            refine wpAnyH_take (i := 13) (v := ?_) rfl (by kernel_rfl) (by kernel_rfl) (by kernel_rfl) (fun _ _ _ h => h) (Or.inl ⟨by rfl, fun w' hS' => ?_⟩) (by assumption) ?_
            rotate_left
            · (try dsimp only at hS'); go_simp; (try rw [if_pos (by omega)]); try with_reducible rfl
            try simp only [Act.put, List.getElem_toArray, List.getElem_cons_zero, List.getElem_cons_succ, List.setIfInBounds_toArray, List.set_cons_zero, List.set_cons_succ]
            refine wpAnyH_ready (rs := [14]) (by kernel_rfl) (by simp) ?_
            refine AllReadyH.cons rfl (fun K' hK => ?_) AllReadyH.nil
            refine if_yes (by rfl) ?_
            try simp only [Act.put, List.getElem_toArray, List.getElem_cons_zero, List.getElem_cons_succ, List.setIfInBounds_toArray, List.set_cons_zero, List.set_cons_succ]
            go_simp
            obtain ⟨u3, hu3, LL, hs3, hE3⟩ := one_box u2 #[.int .i64 f, .int .i64 t, .int .i64 z2] 48
            rw [← hu3.out]
            have hlit : Hid (Bds u3 0 (.slice (some ⟨u2.heap.size, 0, none⟩) 1 1) [⟨f, t, z2⟩]) := by rw [hu3.out]; exact Lib.hid ((Bds.lit u2 ⟨f, t, z2⟩).base (Nat.zero_le _))
            have O0 := O0.ext hE3; have B0 := B0.ext hE3; have R0 := R0.ext hE3; have R1 := R1.ext hE3; have P0 := P0.ext hE3
            have T := Lib.hid (T.out.ext hE3); have V := Lib.hid (V.out.ext hE3); have R := Lib.hid (R.out.ext hE3); have G := Lib.hid (grown_ext' G.out hE3)
            have qu3 := hE3.size
            clear hE3
            refine hK.out _ _ ?_ (fun hHeld => ?_)
            · exact ⟨O0.cell0 rfl, B0.cell0 rfl, B0.cell0 rfl, B0.cell0 rfl⟩
            clear hK K'
            try simp only [Act.put, List.getElem_toArray, List.getElem_cons_zero, List.getElem_cons_succ, List.setIfInBounds_toArray, List.set_cons_zero, List.set_cons_succ]
            refine wpAnyH_ready (rs := [15]) (by kernel_rfl) (by simp) ?_
            refine AllReadyH.cons rfl (fun K' hK => ?_) AllReadyH.nil
            refine if_yes (by rfl) ?_
            try simp only [Act.put, List.getElem_toArray, List.getElem_cons_zero, List.getElem_cons_succ, List.setIfInBounds_toArray, List.set_cons_zero, List.set_cons_succ]
            refine wp_appB _ (.tmp 54) (.tmp 67) rfl (O + 1) 0 (.slice ao tl.length co) tl rfl T.out (.slice (some ⟨u2.heap.size, 0, none⟩) 1 1) [⟨f, t, z2⟩] rfl hlit.out (by simp; omega) (by omega) ?_
            intro v9 w10 hv9 hg9
            have hTl := hTl.out
            have O0 := O0.grown hg9 (fun e => by have := (hTl _ e.symm).1; omega)
            have B0 := B0.grown hg9 (fun e => by have := (hTl _ e.symm).2; omega)
            have R0 := R0.grown hg9 (fun e => by have := (hTl _ e.symm).1; omega)
            have R1 := R1.grown hg9 (fun e => by have := (hTl _ e.symm).1; omega)
            have P0 := P0.grown hg9 (fun e => by have := (hTl _ e.symm).1; omega)
            have V := Lib.hid (V.out.far hg9 (fun q hq e => by have := (VO.out q hq).2; have := (hTl _ e).1; omega))
            have R := Lib.hid (R.out.grown hg9 (fun e => by have := (hTl _ e.symm).1; omega) (fun q hq => by have := (hTl _ hq).1; omega))
            have G := Lib.hid (grown_high G.out hg9 (fun q hq => by have := (hTl _ hq).1; omega))
            have qu4 := hg9.size
            have T := Lib.hid hv9
            obtain ⟨a9, c9, h9e, -⟩ := hv9.open
            rw [List.length_append, List.length_singleton] at h9e
            subst h9e
            clear hg9 hv9
            refine hK.out _ _ ?_ (fun hHeld => ?_)
            · exact ⟨O0.cell0 rfl, B0.cell0 rfl, B0.cell0 rfl, B0.cell0 rfl⟩
            clear hK K'
            try simp only [Act.put, List.getElem_toArray, List.getElem_cons_zero, List.getElem_cons_succ, List.setIfInBounds_toArray, List.set_cons_zero, List.set_cons_succ]
            obtain ⟨rc6, rz6⟩ := (O0).rules; have rl6 := (O0).lt
            refine wpAnyH_take (i := 16) (v := ?_) rfl (by kernel_rfl) (by kernel_rfl) (by kernel_rfl) (fun _ _ _ h => h) (Or.inl ⟨by rfl, fun w' hS' => ?_⟩) (by assumption) ?_
            rotate_left
            · (try dsimp only at hS'); go_simp; (try rw [if_pos (by omega)]); try with_reducible rfl
            try simp only [Act.put, List.getElem_toArray, List.getElem_cons_zero, List.getElem_cons_succ, List.setIfInBounds_toArray, List.set_cons_zero, List.set_cons_succ]
            refine wpAnyH_done (by kernel_rfl) ?_ _
            refine tail_step rfl (fun K' hK => ?_)
            refine if_yes (by rfl) ?_
            try simp only [Act.put, List.getElem_toArray, List.getElem_cons_zero, List.getElem_cons_succ, List.setIfInBounds_toArray, List.set_cons_zero, List.set_cons_succ]
            go_simp
            refine hK _ _ ?_
            clear hK K'
            try simp only [Act.put, List.getElem_toArray, List.getElem_cons_zero, List.getElem_cons_succ, List.setIfInBounds_toArray, List.set_cons_zero, List.set_cons_succ]
            go_wp2_with fail
            go_roundg (p.bs.length - (k+1))
            case rel =>
              refine ⟨k+1, tl ++ [⟨f, t, z2⟩], _, by omega, rfl, by go_num, by rw [List.length_append]; simp; omega, O0.set 1 (.slice a9 (tl.length + 1) c9), Lib.hid (T.out.low (by dsimp only; omega) _), Lib.hid ((R.out.set (by dsimp only; omega) (by dsimp only; omega) _).mono (by omega)), Lib.hid (grown_set' G.out (by omega) _), Lib.hid ?_, R0.far (by dsimp only; omega) _, R1.far (by dsimp only; omega) _, P0.far (by dsimp only; omega) _, by simp [World.setCell]; omega⟩
              exact own_below V.out ((Below.refl O _).setCell (by dsimp only; omega) _) (fun q hq => (VO.out q hq).2)
            case measure => have := Hk.out; omega
          · go_wp2_with fail
            go_roundg (p.bs.length - (k+1))
            case rel => exact ⟨k+1, tl, _, by omega, rfl, by go_num, by omega, O0, T, Lib.hid (R.out.mono (by omega)), G, V, R0, R1, P0, by omega⟩
            case measure => have := Hk.out; omega
        · have hkn : Hid (k = p.bs.length) := by show k = p.bs.length; omega
          obtain ⟨rc2, rz2⟩ := (R0).rules; have rl2 := (R0).lt
          obtain ⟨rc3, rz3⟩ := (R1).rules; have rl3 := (R1).lt
          obtain ⟨rc6, rz6⟩ := (O0).rules; have rl6 := (O0).lt
          go_wp2_with fail
          go_region
          obtain ⟨wf, hwf, F0, F1, VF, QF, GF⟩ := two_stores (q := ⟨p.pts, tl⟩) G.out V.out (T.out.base (by omega)) R0 R1
          have hwf : Hid (wf = (((wr.setCell ⟨w.heap.size, 0, none⟩ (.int .i64 p.pts)).setCell ⟨w.heap.size, 1, none⟩ (.slice av p.bs.length cv)).setCell ⟨w.heap.size + 1, 0, none⟩ (.int .i64 p.pts)).setCell ⟨w.heap.size + 1, 1, none⟩ (.slice ao tl.length co)) := hwf
          rw [← hwf.out]
          clear rc2 rz2 rl2 rc3 rz3 rl3 rc4 rz4 rl4 rc6 rz6 rl6
          obtain ⟨wd, hwd⟩ : ∃ d, Hid (d = wf.drew) := ⟨_, rfl⟩
          have F0 := F0.drew; have F1 : Box wf.drew (w.heap.size + 1) 25 #[.int .i64 p.pts, .slice ao tl.length co] := F1.drew; have VF := Lib.hid VF.drew; have QF := Lib.hid QF.drew; have GF := Lib.hid (grown_drew' GF)
          rw [← hwd.out] at F0 F1 VF QF GF ⊢
          obtain ⟨rc2, rz2⟩ := (F0).rules; have rl2 := (F0).lt
          obtain ⟨rc3, rz3⟩ := (F1).rules; have rl3 := (F1).lt
          go_wp2_with fail
          refine bodyPost_ret (v := .tuple #[.agg #[.int .i64 p.pts, .slice av p.bs.length cv], .agg #[.int .i64 p.pts, .slice ao tl.length co]]) (by simp [results, Try.results77, go_sem, *]) rfl ?_
          exact ⟨_, _, p, ⟨p.pts, tl⟩, rfl, VF.out, QF.out, hl, by dsimp only; omega, h0, h7, h0, h7, GF.out⟩
end Go.Proofs.Ytlcmhcfnmohgmaa
