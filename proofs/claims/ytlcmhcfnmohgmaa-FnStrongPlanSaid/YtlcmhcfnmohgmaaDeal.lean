/- The draws of a deal. No condition but that the reader, or the code's bytes, can be read. -/
import Derived.Test.YtlcmhcfnmohgmaaDealOk
import Derived.Test.YtlcmhcfnmohgmaaDrawPlan
import Derived.Test.YtlcmhcfnmohgmaaTailb
namespace Go.Proofs.Ytlcmhcfnmohgmaa
open Go.RowKit
set_option linter.unusedVariables false
set_option linter.unusedSimpArgs false
theorem own_off {w : World} {base : Nat} {e t : TypeId} {size : Nat} {v : Value} {n : Nat} {xs : List Value} (h : w.ownsRow base e size v n xs) {g : Nat} {ys : Array Value} (hb : Box w g t ys) (he : t ≠ e) : some g ≠ v.ownBlock := by
  intro e'
  rcases h.2 with ⟨rfl, _⟩ | ⟨g', cap, cur, rfl, hg, hh, _⟩
  · cases e'
  · simp only [Value.ownBlock, Option.some.injEq] at e'
    subst e'
    unfold Box at hb
    rw [hh] at hb
    injection hb with hb
    injection hb with h1 h2
    exact he h2.symm
theorem Prs.near {w w' : World} {base g : Nat} {v : Value} {l : List Pr} (h : Prs w base v l) (hg : w.grownBy w' (some g)) (hne : g < base) : Prs w' base v l := own_near h hg hne
theorem Bds.take {w : World} {base n cap : Nat} {a : Option Addr} {l : List Bd} (h : Bds w base (.slice a n cap) l) (k : Nat) (hk : k ≤ l.length) (h0 : 0 < k) : Bds w base (.slice a k cap) (l.take k) := by
  obtain ⟨h1, h2⟩ := h
  have hkl : (l.take k).length = k := by rw [List.length_take]; omega
  refine ⟨by rw [bcells_length, hkl], .inr ?_⟩
  rcases h2 with ⟨he, hn⟩ | ⟨g, cap', cur, he, hg, hh, hn, hc, hs, hx⟩
  · omega
  · cases he
    refine ⟨g, cap, cur, by rw [hkl], hg, hh, by omega, hc, hs, ?_⟩
    have e : bcells (l.take k) = (bcells l).take (k * 3) := by
      have h3 : bcells l = bcells (l.take k) ++ bcells (l.drop k) := by rw [← bcells_append, List.take_append_drop]
      have h4 : (bcells (l.take k)).length = k * 3 := by rw [bcells_length, hkl]
      rw [h3, ← h4, List.take_left]
    rw [e, ← hx, List.take_take, hkl, Nat.min_eq_left (by omega)]
def RetDeal (w : World) (B g m : Nat) : Ending → World → Prop := fun e w' => ∃ (v1 v2 : Value) (p : Pl) (l : List Pr), e = .returned (.agg #[.int .i64 p.pts, v1, v2]) ∧ Bds w' w.heap.size v1 p.bs ∧ Prs w' w.heap.size v2 l ∧ p.bs.length ≤ 6 ∧ l.length ≤ 3 ∧ 0 ≤ p.pts ∧ p.pts ≤ 7 ∧ Rd w' B g m ∧ w.grownBy w' (some g)
def OutCut (w : World) (B g m P : Nat) (pts : Int) (av : Option Addr) (cv base : Nat) (v : Value) (wx : World) : Prop := ∃ L : List Bd, v = .pointer (some ⟨P, 0, none⟩) ∧ L.length ≤ 6 ∧ Box wx P 25 #[.int .i64 pts, .slice av L.length cv] ∧ Bds wx base (.slice av L.length cv) L ∧ Rd wx B g m ∧ w.grownBy wx (some g) ∧ Box wx w.heap.size 44 #[.int .i64 0, .slice none 0 0, .slice none 0 0]
def OutX (w : World) (B g m : Nat) (pts : Int) (vs : Value) (n : Nat) (v : Value) (wx : World) : Prop := ∃ (hX : Nat) (vx : Value) (l2 : List Pr), v = .pointer (some ⟨hX, 0, none⟩) ∧ Box wx hX 44 #[.int .i64 pts, vs, vx] ∧ w.heap.size ≤ hX ∧ Prs wx w.heap.size vx l2 ∧ l2.length ≤ n + 1 ∧ Rd wx B g m ∧ w.grownBy wx (some g)
set_option maxRecDepth 100000 in
set_option maxHeartbeats 16000000 in
theorem spec_l20Deal (B g m : Nat) (n : Int) (w : World) (h : Rd w B g m) (hm : m ≤ 80000) (hn : 0 ≤ n) :
    Calls Try.prog 67 #[.pointer (some ⟨g, 0, none⟩), .int .i64 n] w (RetDeal w B g (m + 300)) := by
  have R := Lib.hid h
  have hgl := h.lt
  clear h
  go_enter Try.func67, Try.ntmps67
  go_wp2_with fail
  obtain ⟨W, hW, R0, hs, E⟩ := one_box w #[.int .i64 0, .slice none 0 0, .slice none 0 0] 44
  rw [← hW.out]
  have G := Lib.hid (grown_of_ext (some g) E)
  have R := Lib.hid (R.out.ext E)
  clear E
  refine (spec_l20Plan B g m 0 W R.out (by omega) (by omega)).mono ?_
  rintro e w1 ⟨bs, p, rfl, hbs, hl, h0, h7, hr, hgw⟩
  have R := Lib.hid hr
  have G := Lib.hid (grown_trans' G.out hgw)
  have R0 := R0.near hgw (by omega)
  have q1 := hgw.size
  obtain ⟨av, cv, rfl, hcl, -, -⟩ := hbs.open
  have V := Lib.hid hbs
  have hVb : ∀ q k, (Value.slice av k cv).ownBlock = some q → W.heap.size ≤ q ∧ q < w1.heap.size := fun q k hq => hbs.lt q (by cases av <;> exact hq)
  clear hbs hr hgw
  go_upto_region 2 with fail
  obtain ⟨w2, hw2, P0, hs2, E2⟩ := one_box w1 #[.int .i64 p.pts, .slice av p.bs.length cv] 25
  rw [← hw2.out]
  have R := Lib.hid (R.out.ext E2)
  have V := Lib.hid (V.out.ext E2)
  have R0 := R0.ext E2
  have G := Lib.hid (grown_ext' G.out E2)
  have q2 := hs2
  clear E2
  obtain ⟨ws, hws⟩ : ∃ ws, ws = w2 := ⟨_, rfl⟩
  subst hws
  obtain ⟨rc1, rz1⟩ := (P0).rules; have rl1 := (P0).lt
  go_upto_if 16 with fail
  go_cut [5] (fun v5 wx => OutCut w B g (m + 200) w1.heap.size p.pts av cv W.heap.size v5 wx)
  case first =>
    by_cases h6 : 6 < p.bs.length
    · have h6i : (6 : Int) < (p.bs.length : Int) := by omega
      have h6c : 6 ≤ cv := by omega
      go_wp2_with fail
      go_meet
      have e6 : (p.bs.take 6).length = 6 := by rw [List.length_take]; omega
      refine ⟨p.bs.take 6, rfl, by omega, ?_, ?_, (R.out.set (p := ⟨w1.heap.size, 1, none⟩) (by dsimp only; omega) (by dsimp only; omega) (.slice av 6 cv)).mono (by omega), grown_set' (k := w1.heap.size) (i := 1) G.out (by omega) (.slice av 6 cv), R0.far (p := ⟨w1.heap.size, 1, none⟩) (by dsimp only; omega) (.slice av 6 cv)⟩
      · rw [e6]; exact P0.set 1 (.slice av 6 cv)
      · rw [e6]; exact (V.out.take 6 (by omega) (by omega)).far (grown_set (i := 1) (World.grownBy.refl _ (some w1.heap.size)) (.slice av 6 cv)) (fun k hk e => by injection e with e; have := hVb k 6 hk; omega)
    · have h6i : ¬ ((6 : Int) < (p.bs.length : Int)) := by omega
      go_wp2_with fail
      go_meet
      exact ⟨p.bs, rfl, by omega, P0, V.out, R.out.mono (by omega), G.out, R0⟩
  clear V R G R0 P0 rc1 rz1 rl1 hl
  rename World => wt
  obtain ⟨L, rfl, hL6, P0, hVc, hRc, hGc, R0⟩ := hcut
  have V := Lib.hid hVc
  have R := Lib.hid hRc
  have G := Lib.hid hGc
  clear hVc hRc hGc
  go_wp2_with fail
  obtain ⟨N, hN⟩ : ∃ N, Hid (N = L.length) := ⟨_, rfl⟩
  rw [← hN.out] at P0 V hL6
  have HL : Hid (∃ L2 : List Bd, L2.length = N ∧ Bds wt W.heap.size (.slice av N cv) L2) := Lib.hid ⟨L, hN.out.symm, V.out⟩
  clear V
  go_loopg [6] N (fun z kk wr => ∃ (k : Nat), k ≤ N ∧ z = N - k ∧ kk = .int .i64 k ∧ Hid (∃ L2 : List Bd, L2.length = N ∧ Bds wr W.heap.size (.slice av N cv) L2) ∧ Hid (Rd wr B g (m + 200 + 2 * k)) ∧ Hid (w.grownBy wr (some g)) ∧
    Box wr w.heap.size 44 #[.int .i64 0, .slice none 0 0, .slice none 0 0] ∧ Box wr w1.heap.size 25 #[.int .i64 p.pts, .slice av N cv])
  case atStart => exact ⟨0, by omega, by omega, rfl, HL, R, G, R0, P0⟩
  case round =>
    clear HL R G R0 P0
    rename World => wr
    obtain ⟨k, hk, hgk, rfl, HL, R, G, R0, P0⟩ := hrel
    have Hk := Lib.hid hgk
    clear hgk
    obtain ⟨L2, hLn, hV⟩ := HL.out
    have V := Lib.hid hV
    have HLn := Lib.hid hLn
    clear HL hV hLn
    obtain ⟨rc1, rz1⟩ := (P0).rules; have rl1 := (P0).lt
    by_cases hlt : k < N
    · have hki : (k : Int) < (N : Int) := by omega
      go_wp2_with fail
      clear rc1 rz1 rl1
      refine (spec_pick B g _ 2 _ R.out (by omega)).mono ?_
      rintro e w31 ⟨x31, rfl, hx31, hy31, r31, g31, -⟩
      have R := Lib.hid r31
      have G := Lib.hid (grown_trans' G.out g31)
      have R0 := R0.near g31 (by omega)
      have P0 := P0.near g31 (by omega)
      have V := Lib.hid (V.out.near g31 (by omega))
      have q31 := g31.size
      clear r31 g31
      by_cases hx : x31 = 0
      · have hxb : (x31 == 0) = true := by simp [hx]
        have Hx := Lib.hid hx
        clear hx
        go_upto_region 8 with fail
        obtain ⟨gv, hav, hgW, hgl2, hgf, c0, c1, c2⟩ := V.out.at_ (j := k) (by have := HLn.out; omega)
        subst hav
        obtain ⟨m0, hm0⟩ : ∃ m0, Hid (m0 = (L2.getD k Bd.z).m) := ⟨_, rfl⟩
        rw [← hm0.out] at c2
        have hgv1 := (hVb gv 0 rfl).2
        refine wp_region_tailb 15 (by kernel_rfl) (by kernel_rfl) (fun w' => w'.cell? ⟨w1.heap.size, 1, none⟩ = some (Value.slice (some ⟨gv, 0, none⟩) N cv) ∧ w'.cell? ⟨gv, k * 3 + 2, none⟩ = some (Value.int .i64 m0)) ?_ ?_
        · exact ⟨P0.cell0 rfl, c2⟩
        intro hHeld
        obtain ⟨D, hD⟩ : ∃ D, Hid (D = w31.drew) := ⟨_, rfl⟩
        have qD : w31.heap.size ≤ D.heap.size := by rw [hD.out]; exact Nat.le_refl _
        have V : Hid (Bds D W.heap.size (.slice (some ⟨gv, 0, none⟩) N cv) L2) := by rw [hD.out]; exact Lib.hid V.out.drew
        have P0 := P0.drew
        have R0 := R0.drew
        have R : Hid (Rd D B g (m + 200 + 2 * k + 1)) := by rw [hD.out]; exact Lib.hid R.out.drew
        have G : Hid (w.grownBy D (some g)) := by rw [hD.out]; exact Lib.hid (grown_drew' G.out)
        rw [← hD.out] at hHeld P0 R0 ⊢
        clear c0 c1 c2 hgf hgl2
        simp only [List.pop_toArray, List.dropLast]
        try simp only [Act.put, List.setIfInBounds_toArray, List.set_cons_zero, List.set_cons_succ]
        refine wpAnyH_take (i := 0) (v := ?_) rfl (by kernel_rfl) (by kernel_rfl) (by kernel_rfl) (fun _ _ _ h => h) (Or.inl ⟨by rfl, fun w' hS' => ?_⟩) (by assumption) ?_
        rotate_left
        · (try dsimp only at hS'); go_simp; (try rw [if_pos (by omega)]); try with_reducible rfl
        try simp only [Act.put, List.getElem_toArray, List.getElem_cons_zero, List.getElem_cons_succ, List.setIfInBounds_toArray, List.set_cons_zero, List.set_cons_succ]
        refine wpAnyH_take (i := 1) (v := ?_) rfl (by kernel_rfl) (by kernel_rfl) (by kernel_rfl) (fun _ _ _ h => h) (Or.inl ⟨by rfl, fun w' hS' => ?_⟩) (by assumption) ?_
        rotate_left
        · (try dsimp only at hS'); go_simp; (try rw [if_pos (by omega)]); try with_reducible rfl
        try simp only [Act.put, List.getElem_toArray, List.getElem_cons_zero, List.getElem_cons_succ, List.setIfInBounds_toArray, List.set_cons_zero, List.set_cons_succ]
        refine wpAnyH_take (i := 2) (v := ?_) rfl (by kernel_rfl) (by kernel_rfl) (by kernel_rfl) (fun _ _ _ h => h) (Or.inl ⟨by rfl, fun w' hS' => ?_⟩) (by assumption) ?_
        rotate_left
        · (try dsimp only at hS'); go_simp; (try rw [if_pos (by omega)]); try with_reducible rfl
        try simp only [Act.put, List.getElem_toArray, List.getElem_cons_zero, List.getElem_cons_succ, List.setIfInBounds_toArray, List.set_cons_zero, List.set_cons_succ]
        refine wpAnyH_take (i := 3) (v := ?_) rfl (by kernel_rfl) (by kernel_rfl) (by kernel_rfl) (fun _ _ _ h => h) (Or.inl ⟨by rfl, fun w' hS' => ?_⟩) (by assumption) ?_
        rotate_left
        · (try dsimp only at hS'); go_simp; (try rw [if_pos (by omega)]); try with_reducible rfl
        try simp only [Act.put, List.getElem_toArray, List.getElem_cons_zero, List.getElem_cons_succ, List.setIfInBounds_toArray, List.set_cons_zero, List.set_cons_succ]
        refine wpAnyH_take (i := 4) (v := ?_) rfl (by kernel_rfl) (by kernel_rfl) (by kernel_rfl) (fun _ _ _ h => h) (Or.inl ⟨by rfl, fun w' hS' => ?_⟩) (by assumption) ?_
        rotate_left
        · (try dsimp only at hS'); go_simp; (try rw [if_pos (by omega)]); try with_reducible rfl
        try simp only [Act.put, List.getElem_toArray, List.getElem_cons_zero, List.getElem_cons_succ, List.setIfInBounds_toArray, List.set_cons_zero, List.set_cons_succ]
        refine wpAnyH_take (i := 5) (v := ?_) rfl (by kernel_rfl) (by kernel_rfl) (by kernel_rfl) (fun _ _ _ h => h) (Or.inl ⟨by rfl, fun w' hS' => ?_⟩) (by assumption) ?_
        rotate_left
        · (try dsimp only at hS'); go_simp; (try rw [if_pos (by omega)]); try with_reducible rfl
        try simp only [Act.put, List.getElem_toArray, List.getElem_cons_zero, List.getElem_cons_succ, List.setIfInBounds_toArray, List.set_cons_zero, List.set_cons_succ]
        refine wpAnyH_take (i := 6) (v := ?_) rfl (by kernel_rfl) (by kernel_rfl) (by kernel_rfl) (fun _ _ _ h => h) (Or.inl ⟨by rfl, fun w' hS' => ?_⟩) (by assumption) ?_
        rotate_left
        · (try dsimp only at hS'); go_simp; (try rw [if_pos (by omega)]); try with_reducible rfl
        try simp only [Act.put, List.getElem_toArray, List.getElem_cons_zero, List.getElem_cons_succ, List.setIfInBounds_toArray, List.set_cons_zero, List.set_cons_succ]
        refine wpAnyH_take (i := 7) (v := ?_) rfl (by kernel_rfl) (by kernel_rfl) (by kernel_rfl) (fun _ _ _ h => h) (Or.inl ⟨by rfl, fun w' hS' => ?_⟩) (by assumption) ?_
        rotate_left
        · (try dsimp only at hS'); go_simp; (try rw [if_pos (by omega)]); try with_reducible rfl
        try simp only [Act.put, List.getElem_toArray, List.getElem_cons_zero, List.getElem_cons_succ, List.setIfInBounds_toArray, List.set_cons_zero, List.set_cons_succ]
        refine wpAnyH_take (i := 8) (v := ?_) rfl (by kernel_rfl) (by kernel_rfl) (by kernel_rfl) (fun _ _ _ h => h) (Or.inl ⟨by rfl, fun w' hS' => ?_⟩) (by assumption) ?_
        rotate_left
        · (try dsimp only at hS'); go_simp; (try rw [if_pos (by omega)]); try with_reducible rfl
        try simp only [Act.put, List.getElem_toArray, List.getElem_cons_zero, List.getElem_cons_succ, List.setIfInBounds_toArray, List.set_cons_zero, List.set_cons_succ]
        refine wpAnyH_take (i := 9) (v := ?_) rfl (by kernel_rfl) (by kernel_rfl) (by kernel_rfl) (fun _ _ _ h => h) (Or.inl ⟨by rfl, fun w' hS' => ?_⟩) (by assumption) ?_
        rotate_left
        · (try dsimp only at hS'); go_simp; (try rw [if_pos (by omega)]); try with_reducible rfl
        try simp only [Act.put, List.getElem_toArray, List.getElem_cons_zero, List.getElem_cons_succ, List.setIfInBounds_toArray, List.set_cons_zero, List.set_cons_succ]
        refine wpAnyH_ready (rs := [10]) (by kernel_rfl) (by simp) ?_
        refine AllReadyH.cons rfl (fun K' hK => ?_) AllReadyH.nil
        refine if_yes (by rfl) ?_
        try simp only [Act.put, List.getElem_toArray, List.getElem_cons_zero, List.getElem_cons_succ, List.setIfInBounds_toArray, List.set_cons_zero, List.set_cons_succ]
        go_simp
        refine (spec_pick B g _ 12 _ R.out (by omega)).mono ?_
        rintro e w32 ⟨x32, rfl, hx32, hy32, hr, hgw, -⟩
        have R := Lib.hid hr
        have G := Lib.hid (grown_trans' G.out hgw)
        have V := Lib.hid (V.out.near hgw (by omega))
        have P0 := P0.near hgw (by omega)
        have R0 := R0.near hgw (by omega)
        have q32 := hgw.size
        obtain ⟨gv', hav', -, hgl2, hgf, -, -, c2⟩ := V.out.at_ (j := k) (by have := HLn.out; omega)
        cases hav'
        rw [← hm0.out] at c2
        clear hr hgw
        go_wp2_with fail
        refine hK.out _ _ ?_ (fun hHeld => ?_)
        · exact ⟨P0.cell0 rfl, c2⟩
        clear hK K'
        try simp only [Act.put, List.getElem_toArray, List.getElem_cons_zero, List.getElem_cons_succ, List.setIfInBounds_toArray, List.set_cons_zero, List.set_cons_succ]
        obtain ⟨v0, hv0⟩ : ∃ v, IntKind.i64.wrap (m0 + x32) = v := ⟨_, rfl⟩
        have hv1 : wrap64 (m0 + x32) = v0 := (IntWalk.i64_left _).symm.trans hv0
        by_cases h99 : v0 ≤ 99
        · skip
          refine wpAnyH_take (i := 11) (v := ?_) rfl (by kernel_rfl) (by kernel_rfl) (by kernel_rfl) (fun _ _ _ h => h) (Or.inl ⟨by rfl, fun w' hS' => ?_⟩) (by assumption) ?_
          rotate_left
          · (try dsimp only at hS'); go_simp; (try rw [if_pos (by omega)]); try with_reducible rfl
          try simp only [Act.put, List.getElem_toArray, List.getElem_cons_zero, List.getElem_cons_succ, List.setIfInBounds_toArray, List.set_cons_zero, List.set_cons_succ]
          refine wpAnyH_take (i := 12) (v := ?_) rfl (by kernel_rfl) (by kernel_rfl) (by kernel_rfl) (fun _ _ _ h => h) (Or.inl ⟨by rfl, fun w' hS' => ?_⟩) (by assumption) ?_
          rotate_left
          · (try dsimp only at hS'); go_simp; (try rw [if_pos (by omega)]); try with_reducible rfl
          try simp only [Act.put, List.getElem_toArray, List.getElem_cons_zero, List.getElem_cons_succ, List.setIfInBounds_toArray, List.set_cons_zero, List.set_cons_succ]
          refine wpAnyH_take (i := 13) (v := ?_) rfl (by kernel_rfl) (by kernel_rfl) (by kernel_rfl) (fun _ _ _ h => h) (Or.inl ⟨by rfl, fun w' hS' => ?_⟩) (by assumption) ?_
          rotate_left
          · (try dsimp only at hS'); go_simp; (try rw [if_pos (by omega)]); try with_reducible rfl
          try simp only [Act.put, List.getElem_toArray, List.getElem_cons_zero, List.getElem_cons_succ, List.setIfInBounds_toArray, List.set_cons_zero, List.set_cons_succ]
          refine wpAnyH_take (i := 14) (v := ?_) rfl (by kernel_rfl) (by kernel_rfl) (by kernel_rfl) (fun _ _ _ h => h) (Or.inl ⟨by rfl, fun w' hS' => ?_⟩) (by assumption) ?_
          rotate_left
          · (try dsimp only at hS'); go_simp; (try rw [if_pos (by omega)]); try with_reducible rfl
          try simp only [Act.put, List.getElem_toArray, List.getElem_cons_zero, List.getElem_cons_succ, List.setIfInBounds_toArray, List.set_cons_zero, List.set_cons_succ]
          have hVs := fun u => Lib.hid (V.out.setM (j := k) (by have := HLn.out; omega) u)
          clear c2
          refine wpAnyH_done (by kernel_rfl) ?_ _
          refine tail_step rfl (fun K' hK => ?_)
          refine if_yes (by rfl) ?_
          try simp only [Act.put, List.getElem_toArray, List.getElem_cons_zero, List.getElem_cons_succ, List.setIfInBounds_toArray, List.set_cons_zero, List.set_cons_succ]
          go_simp
          refine hK _ _ ?_
          clear hK K'
          try simp only [Act.put, List.getElem_toArray, List.getElem_cons_zero, List.getElem_cons_succ, List.setIfInBounds_toArray, List.set_cons_zero, List.set_cons_succ]
          clear hgf hgl2
          go_wp2_with fail
          go_roundg (N - (k+1))
          case rel =>
            refine ⟨k+1, by omega, rfl, by go_num, Lib.hid ⟨_, ?_, (hVs _).out⟩, Lib.hid ((R.out.set (by dsimp only; omega) (by dsimp only; omega) _).mono (by omega)), Lib.hid (grown_set' G.out (by omega) _), R0.far (by dsimp only; omega) _, P0.far (by dsimp only; omega) _⟩
            rw [List.length_set]; exact HLn.out
          case measure => have := Hk.out; omega
        · skip
          refine wpAnyH_take (i := 11) (v := ?_) rfl (by kernel_rfl) (by kernel_rfl) (by kernel_rfl) (fun _ _ _ h => h) (Or.inl ⟨by rfl, fun w' hS' => ?_⟩) (by assumption) ?_
          rotate_left
          · (try dsimp only at hS'); go_simp; (try rw [if_pos (by omega)]); try with_reducible rfl
          try simp only [Act.put, List.getElem_toArray, List.getElem_cons_zero, List.getElem_cons_succ, List.setIfInBounds_toArray, List.set_cons_zero, List.set_cons_succ]
          refine wpAnyH_take (i := 12) (v := ?_) rfl (by kernel_rfl) (by kernel_rfl) (by kernel_rfl) (fun _ _ _ h => h) (Or.inl ⟨by rfl, fun w' hS' => ?_⟩) (by assumption) ?_
          rotate_left
          · (try dsimp only at hS'); go_simp; (try rw [if_pos (by omega)]); try with_reducible rfl
          try simp only [Act.put, List.getElem_toArray, List.getElem_cons_zero, List.getElem_cons_succ, List.setIfInBounds_toArray, List.set_cons_zero, List.set_cons_succ]
          refine wpAnyH_take (i := 13) (v := ?_) rfl (by kernel_rfl) (by kernel_rfl) (by kernel_rfl) (fun _ _ _ h => h) (Or.inl ⟨by rfl, fun w' hS' => ?_⟩) (by assumption) ?_
          rotate_left
          · (try dsimp only at hS'); go_simp; (try rw [if_pos (by omega)]); try with_reducible rfl
          try simp only [Act.put, List.getElem_toArray, List.getElem_cons_zero, List.getElem_cons_succ, List.setIfInBounds_toArray, List.set_cons_zero, List.set_cons_succ]
          refine wpAnyH_take (i := 14) (v := ?_) rfl (by kernel_rfl) (by kernel_rfl) (by kernel_rfl) (fun _ _ _ h => h) (Or.inl ⟨by rfl, fun w' hS' => ?_⟩) (by assumption) ?_
          rotate_left
          · (try dsimp only at hS'); go_simp; (try rw [if_pos (by omega)]); try with_reducible rfl
          try simp only [Act.put, List.getElem_toArray, List.getElem_cons_zero, List.getElem_cons_succ, List.setIfInBounds_toArray, List.set_cons_zero, List.set_cons_succ]
          have hVs := fun u => Lib.hid (V.out.setM (j := k) (by have := HLn.out; omega) u)
          clear c2
          refine wpAnyH_done (by kernel_rfl) ?_ _
          refine tail_step rfl (fun K' hK => ?_)
          refine if_yes (by rfl) ?_
          try simp only [Act.put, List.getElem_toArray, List.getElem_cons_zero, List.getElem_cons_succ, List.setIfInBounds_toArray, List.set_cons_zero, List.set_cons_succ]
          go_simp
          refine hK _ _ ?_
          clear hK K'
          try simp only [Act.put, List.getElem_toArray, List.getElem_cons_zero, List.getElem_cons_succ, List.setIfInBounds_toArray, List.set_cons_zero, List.set_cons_succ]
          clear hgf hgl2
          go_wp2_with fail
          go_roundg (N - (k+1))
          case rel =>
            refine ⟨k+1, by omega, rfl, by go_num, Lib.hid ⟨_, ?_, (hVs _).out⟩, Lib.hid ((R.out.set (by dsimp only; omega) (by dsimp only; omega) _).mono (by omega)), Lib.hid (grown_set' G.out (by omega) _), R0.far (by dsimp only; omega) _, P0.far (by dsimp only; omega) _⟩
            rw [List.length_set]; exact HLn.out
          case measure => have := Hk.out; omega
      · have hxb : (x31 == 0) = false := by simp [hx]
        have Hx := Lib.hid hx
        clear hx
        go_wp2_with fail
        go_roundg (N - (k+1))
        case rel => exact ⟨k+1, by omega, rfl, by go_num, Lib.hid ⟨L2, HLn.out, V.out⟩, Lib.hid (R.out.mono (by omega)), G, R0, P0⟩
        case measure => have := Hk.out; omega
    · have hki : ¬ (k : Int) < (N : Int) := by omega
      go_upto_region 10 with fail
      obtain ⟨w4, hw4, D0, hs4, E4⟩ := one_box wr #[.int .i64 p.pts, .slice av N cv, .slice none 0 0] 44
      rw [← hw4.out]
      have R := Lib.hid (R.out.ext E4)
      have V := Lib.hid (V.out.ext E4)
      have R0 := R0.ext E4
      have P0 := P0.ext E4
      have G := Lib.hid (grown_ext' G.out E4)
      have hP0l : w1.heap.size < wr.heap.size := by have := P0.lt; have := rl1; omega
      have q4 := E4.size
      have R := Lib.hid (R.out.mono (show _ ≤ m + 212 by omega))
      clear E4 rc1 rz1 rl1 hk hlt hki Hk
      go_wp2_with fail
      refine (spec_pick B g _ 3 _ R.out (by omega)).mono ?_
      rintro e w41 ⟨x41, rfl, hx41, hy41, r41, g41, -⟩
      have R := Lib.hid r41
      have G := Lib.hid (grown_trans' G.out g41)
      have R0 := R0.near g41 (by omega)
      have P0 := P0.near g41 (by omega)
      have D0 := D0.near g41 (by omega)
      have V := Lib.hid (V.out.near g41 (by omega))
      have q41 := g41.size
      clear r41 g41
      obtain ⟨i, rfl⟩ : ∃ i : Nat, x41 = (i : Int) := ⟨x41.toNat, by omega⟩
      have hi3 : i < 3 := by omega
      obtain ⟨wb, hwb⟩ : ∃ b, Hid (b = w4.heap.size) := ⟨_, rfl⟩
      have hwbl : wr.heap.size + 1 ≤ wb := by rw [hwb.out]; omega
      have hwbw : wb ≤ w41.heap.size := by rw [hwb.out]; omega
      obtain ⟨d0, hd0⟩ : ∃ d0, Hid (d0 = wr.heap.size) := ⟨_, rfl⟩
      rw [← hd0.out] at D0 hP0l hwbl ⊢
      go_wp2_with fail
      go_loopg [8] (i + 1) (fun z kk wq => ∃ (k : Nat) (vp : Value) (l : List Pr), k ≤ 2 ∧ z = k + 1 ∧ kk = .int .i64 k ∧ l.length + k ≤ 2 ∧ Hid (Prs wq wb vp l) ∧ Hid (Bds wq W.heap.size (.slice av N cv) L2) ∧ Hid (Rd wq B g (m + 260 - 8 * k)) ∧ Hid (w.grownBy wq (some g)) ∧
        Box wq w.heap.size 44 #[.int .i64 0, .slice none 0 0, .slice none 0 0] ∧ Box wq w1.heap.size 25 #[.int .i64 p.pts, .slice av N cv] ∧ Box wq d0 44 #[.int .i64 p.pts, .slice av N cv, vp] ∧ wb ≤ wq.heap.size)
      case atStart => exact ⟨i, _, [], by omega, by omega, rfl, by simp; omega, Lib.hid (Prs.nil _ _), V, Lib.hid (R.out.mono (by omega)), G, R0, P0, D0, hwbw⟩
      case round =>
        clear V R G R0 P0 D0
        rename World => wq
        obtain ⟨k, vp, l, hk, hgk, rfl, hlk, Nr, V, R, G, R0, P0, D0, hwq⟩ := hrel
        have Hk := Lib.hid hgk
        clear hgk
        obtain ⟨ap, cp, rfl, -⟩ := Nr.out.open
        by_cases hgo : 0 < k ∧ 1 < p.pts
        · obtain ⟨hk0, hp1⟩ := hgo
          have hk0i : (0 : Int) < (k : Int) := by omega
          obtain ⟨rc1, rz1⟩ := (P0).rules; have rl1 := (P0).lt
          go_wp2_with fail
          clear rc1 rz1 rl1
          refine (spec_pick B g _ 7 _ R.out (by omega)).mono ?_
          rintro e w51 ⟨x51, rfl, hx51, hy51, r51, g51, -⟩
          have R := Lib.hid r51
          have G := Lib.hid (grown_trans' G.out g51)
          have R0 := R0.near g51 (by omega)
          have P0 := P0.near g51 (by omega)
          have D0 := D0.near g51 (by omega)
          have V := Lib.hid (V.out.near g51 (by omega))
          have Nr := Lib.hid (Nr.out.near g51 (by omega))
          have q51 := g51.size
          clear r51 g51
          go_upto_region 14 with fail
          obtain ⟨ws2, hws2⟩ : ∃ ws2, ws2 = w51 := ⟨_, rfl⟩
          subst hws2
          have Gw := G
          clear G
          go_cut [10] (fun v10 wx => OutX ws2 B g (m + 260 - 8 * k + 4) p.pts (.slice av N cv) l.length v10 wx)
          case first =>
            have G : Hid (ws2.grownBy ws2 (some g)) := Lib.hid (World.grownBy.refl _ _)
            refine wp_region_held_drew (S := fun w' => w'.cell? ⟨w1.heap.size, 0, none⟩ = some (Value.int .i64 p.pts) ∧ w'.cell? ⟨w1.heap.size, 1, none⟩ = some (.slice av N cv) ∧ w'.cell? ⟨d0, 2, none⟩ = some (.slice ap l.length cp)) (by kernel_rfl) ?_ (fun hHeld => ?_)
            · exact ⟨P0.cell0 rfl, P0.cell0 rfl, D0.cell0 rfl⟩
            have G := Lib.hid (grown_drew' G.out)
            have R := Lib.hid R.out.drew
            have Nr := Lib.hid Nr.out.drew
            have P0 := P0.drew
            have D0 := D0.drew
            obtain ⟨D, hD⟩ : ∃ D, Hid (D = ws2.drew) := ⟨_, rfl⟩
            have qD : ws2.heap.size ≤ D.heap.size := by rw [hD.out]; exact Nat.le_refl _
            rw [← hD.out] at G R Nr P0 D0 hHeld ⊢
            try simp only [Act.put, List.setIfInBounds_toArray, List.set_cons_zero, List.set_cons_succ]
            refine wpAnyH_take (i := 0) (v := ?_) rfl (by kernel_rfl) (by kernel_rfl) (by kernel_rfl) (fun _ _ _ h => h) (Or.inl ⟨by rfl, fun w' hS' => ?_⟩) (by assumption) ?_
            rotate_left
            · (try dsimp only at hS'); go_simp; (try rw [if_pos (by omega)]); try with_reducible rfl
            try simp only [Act.put, List.getElem_toArray, List.getElem_cons_zero, List.getElem_cons_succ, List.setIfInBounds_toArray, List.set_cons_zero, List.set_cons_succ]
            refine wpAnyH_take (i := 2) (v := ?_) rfl (by kernel_rfl) (by kernel_rfl) (by kernel_rfl) (fun _ _ _ h => h) (Or.inl ⟨by rfl, fun w' hS' => ?_⟩) (by assumption) ?_
            rotate_left
            · (try dsimp only at hS'); go_simp; (try rw [if_pos (by omega)]); try with_reducible rfl
            try simp only [Act.put, List.getElem_toArray, List.getElem_cons_zero, List.getElem_cons_succ, List.setIfInBounds_toArray, List.set_cons_zero, List.set_cons_succ]
            refine wpAnyH_take (i := 3) (v := ?_) rfl (by kernel_rfl) (by kernel_rfl) (by kernel_rfl) (fun _ _ _ h => h) (Or.inl ⟨by rfl, fun w' hS' => ?_⟩) (by assumption) ?_
            rotate_left
            · (try dsimp only at hS'); go_simp; (try rw [if_pos (by omega)]); try with_reducible rfl
            try simp only [Act.put, List.getElem_toArray, List.getElem_cons_zero, List.getElem_cons_succ, List.setIfInBounds_toArray, List.set_cons_zero, List.set_cons_succ]
            refine wpAnyH_take (i := 5) (v := ?_) rfl (by kernel_rfl) (by kernel_rfl) (by kernel_rfl) (fun _ _ _ h => h) (Or.inl ⟨by rfl, fun w' hS' => ?_⟩) (by assumption) ?_
            rotate_left
            · (try dsimp only at hS'); go_simp; (try rw [if_pos (by omega)]); try with_reducible rfl
            try simp only [Act.put, List.getElem_toArray, List.getElem_cons_zero, List.getElem_cons_succ, List.setIfInBounds_toArray, List.set_cons_zero, List.set_cons_succ]
            refine wpAnyH_take (i := 6) (v := ?_) rfl (by kernel_rfl) (by kernel_rfl) (by kernel_rfl) (fun _ _ _ h => h) (Or.inl ⟨by rfl, fun w' hS' => ?_⟩) (by assumption) ?_
            rotate_left
            · (try dsimp only at hS'); go_simp; (try rw [if_pos (by omega)]); try with_reducible rfl
            try simp only [Act.put, List.getElem_toArray, List.getElem_cons_zero, List.getElem_cons_succ, List.setIfInBounds_toArray, List.set_cons_zero, List.set_cons_succ]
            refine wpAnyH_take (i := 7) (v := ?_) rfl (by kernel_rfl) (by kernel_rfl) (by kernel_rfl) (fun _ _ _ h => h) (Or.inl ⟨by rfl, fun w' hS' => ?_⟩) (by assumption) ?_
            rotate_left
            · (try dsimp only at hS'); go_simp; (try rw [if_pos (by omega)]); try with_reducible rfl
            try simp only [Act.put, List.getElem_toArray, List.getElem_cons_zero, List.getElem_cons_succ, List.setIfInBounds_toArray, List.set_cons_zero, List.set_cons_succ]
            refine wpAnyH_take (i := 9) (v := ?_) rfl (by kernel_rfl) (by kernel_rfl) (by kernel_rfl) (fun _ _ _ h => h) (Or.inl ⟨by rfl, fun w' hS' => ?_⟩) (by assumption) ?_
            rotate_left
            · (try dsimp only at hS'); go_simp; (try rw [if_pos (by omega)]); try with_reducible rfl
            try simp only [Act.put, List.getElem_toArray, List.getElem_cons_zero, List.getElem_cons_succ, List.setIfInBounds_toArray, List.set_cons_zero, List.set_cons_succ]
            refine wpAnyH_take (i := 10) (v := ?_) rfl (by kernel_rfl) (by kernel_rfl) (by kernel_rfl) (fun _ _ _ h => h) (Or.inl ⟨by rfl, fun w' hS' => ?_⟩) (by assumption) ?_
            rotate_left
            · (try dsimp only at hS'); go_simp; (try rw [if_pos (by omega)]); try with_reducible rfl
            try simp only [Act.put, List.getElem_toArray, List.getElem_cons_zero, List.getElem_cons_succ, List.setIfInBounds_toArray, List.set_cons_zero, List.set_cons_succ]
            refine wpAnyH_take (i := 11) (v := ?_) rfl (by kernel_rfl) (by kernel_rfl) (by kernel_rfl) (fun _ _ _ h => h) (Or.inl ⟨by rfl, fun w' hS' => ?_⟩) (by assumption) ?_
            rotate_left
            · (try dsimp only at hS'); go_simp; (try rw [if_pos (by omega)]); try with_reducible rfl
            try simp only [Act.put, List.getElem_toArray, List.getElem_cons_zero, List.getElem_cons_succ, List.setIfInBounds_toArray, List.set_cons_zero, List.set_cons_succ]
            refine wpAnyH_take (i := 13) (v := ?_) rfl (by kernel_rfl) (by kernel_rfl) (by kernel_rfl) (fun _ _ _ h => h) (Or.inl ⟨by rfl, fun w' hS' => ?_⟩) (by assumption) ?_
            rotate_left
            · (try dsimp only at hS'); go_simp; (try rw [if_pos (by omega)]); try with_reducible rfl
            try simp only [Act.put, List.getElem_toArray, List.getElem_cons_zero, List.getElem_cons_succ, List.setIfInBounds_toArray, List.set_cons_zero, List.set_cons_succ]
            refine wpAnyH_take (i := 14) (v := ?_) rfl (by kernel_rfl) (by kernel_rfl) (by kernel_rfl) (fun _ _ _ h => h) (Or.inl ⟨by rfl, fun w' hS' => ?_⟩) (by assumption) ?_
            rotate_left
            · (try dsimp only at hS'); go_simp; (try rw [if_pos (by omega)]); try with_reducible rfl
            try simp only [Act.put, List.getElem_toArray, List.getElem_cons_zero, List.getElem_cons_succ, List.setIfInBounds_toArray, List.set_cons_zero, List.set_cons_succ]
            refine wpAnyH_take (i := 15) (v := ?_) rfl (by kernel_rfl) (by kernel_rfl) (by kernel_rfl) (fun _ _ _ h => h) (Or.inl ⟨by rfl, fun w' hS' => ?_⟩) (by assumption) ?_
            rotate_left
            · (try dsimp only at hS'); go_simp; (try rw [if_pos (by omega)]); try with_reducible rfl
            try simp only [Act.put, List.getElem_toArray, List.getElem_cons_zero, List.getElem_cons_succ, List.setIfInBounds_toArray, List.set_cons_zero, List.set_cons_succ]
            refine wpAnyH_ready (rs := [1, 22]) (by kernel_rfl) (by simp) ?_
            refine AllReadyH.cons rfl (fun K' hK => ?_) (AllReadyH.cons rfl (fun K' hK => ?_) AllReadyH.nil)
            · skip
              refine if_yes (by rfl) ?_
              try simp only [Act.put, List.setIfInBounds_toArray, List.set_cons_zero, List.set_cons_succ]
              go_simp
              obtain ⟨x18w, hx18w, T0, sx18w, ex18w⟩ := one_box D #[] 50
              rw [← hx18w.out]
              have lhT := G.out.size
              have P0 := P0.ext ex18w
              have D0 := D0.ext ex18w
              have Nr := Lib.hid (Nr.out.ext ex18w)
              have R := Lib.hid (R.out.ext ex18w)
              have G := Lib.hid (grown_ext' G.out ex18w)
              have qx18w := (ex18w).size
              obtain ⟨hT, HhT⟩ : ∃ b, Hid (b = D.heap.size) := ⟨_, rfl⟩
              rw [← HhT.out] at T0 lhT ⊢
              clear ex18w
              refine hK.out _ _ ?_ (fun hHeld => ?_)
              · exact ⟨P0.cell0 rfl, P0.cell0 rfl, D0.cell0 rfl⟩
              clear hK K'
              try simp only [Act.put, List.setIfInBounds_toArray, List.set_cons_zero, List.set_cons_succ]
              refine wpAnyH_ready (rs := [4, 22]) (by kernel_rfl) (by simp) ?_
              refine AllReadyH.cons rfl (fun K' hK => ?_) (AllReadyH.cons rfl (fun K' hK => ?_) AllReadyH.nil)
              · skip
                refine if_yes (by rfl) ?_
                try simp only [Act.put, List.setIfInBounds_toArray, List.set_cons_zero, List.set_cons_succ]
                refine wp_appPr _ (.tmp 62) (.tmp 64) rfl hT 0 (.slice (some ⟨hT, 0, none⟩) 0 0) [] rfl (Prs.ofBox T0 (Nat.le_refl _)) (.slice ap l.length cp) l rfl (Nr.out.base (Nat.zero_le _)) (by simp; omega) (by have := HhT.out; omega) ?_
                intro v' x19w hv' hg'
                simp only [List.nil_append] at hv'
                obtain ⟨aA, cA, rfl, -⟩ := hv'.open
                have T0r := Prs.ofBox T0 (Nat.le_refl _)
                have P0 := P0.grown hg' (own_off T0r P0 (by decide))
                have D0 := D0.grown hg' (own_off T0r D0 (by decide))
                have R := Lib.hid (R.out.grown hg' (fun e => by have := (T0r).lt _ e.symm; omega) (fun k hk => by have := (T0r).lt k hk; omega))
                have G := Lib.hid (grown_high G.out hg' (fun k hk => by have := (T0r).lt k hk; omega))
                have qx19w := hg'.size
                have A := Lib.hid hv'
                clear hv' hg' T0r T0
                refine hK.out _ _ ?_ (fun hHeld => ?_)
                · exact ⟨P0.cell0 rfl, P0.cell0 rfl, D0.cell0 rfl⟩
                clear hK K'
                try simp only [Act.put, List.setIfInBounds_toArray, List.set_cons_zero, List.set_cons_succ]
                refine wpAnyH_ready (rs := [8, 22]) (by kernel_rfl) (by simp) ?_
                refine AllReadyH.cons rfl (fun K' hK => ?_) (AllReadyH.cons rfl (fun K' hK => ?_) AllReadyH.nil)
                · skip
                  refine if_yes (by rfl) ?_
                  try simp only [Act.put, List.setIfInBounds_toArray, List.set_cons_zero, List.set_cons_succ]
                  go_simp
                  refine (spec_pick B g _ p.pts _ R.out (by omega)).mono ?_
                  rintro e x20w ⟨y1, rfl, hy10, hy11, hr, hgw, -⟩
                  have P0 := P0.near hgw (by omega)
                  have D0 := D0.near hgw (by omega)
                  have A := Lib.hid (A.out.near hgw (by omega))
                  have G := Lib.hid (grown_trans' G.out hgw)
                  have R := Lib.hid hr
                  have qx20w := hgw.size
                  clear hr hgw
                  go_wp2_with fail
                  refine hK.out _ _ ?_ (fun hHeld => ?_)
                  · exact ⟨P0.cell0 rfl, P0.cell0 rfl, D0.cell0 rfl⟩
                  clear hK K'
                  try simp only [Act.put, List.setIfInBounds_toArray, List.set_cons_zero, List.set_cons_succ]
                  refine wpAnyH_ready (rs := [12, 22]) (by kernel_rfl) (by simp) ?_
                  refine AllReadyH.cons rfl (fun K' hK => ?_) (AllReadyH.cons rfl (fun K' hK => ?_) AllReadyH.nil)
                  · skip
                    refine if_yes (by rfl) ?_
                    try simp only [Act.put, List.setIfInBounds_toArray, List.set_cons_zero, List.set_cons_succ]
                    go_simp
                    refine (spec_pick B g _ p.pts _ R.out (by omega)).mono ?_
                    rintro e x21w ⟨y2, rfl, hy20, hy21, hr, hgw, -⟩
                    have P0 := P0.near hgw (by omega)
                    have D0 := D0.near hgw (by omega)
                    have A := Lib.hid (A.out.near hgw (by omega))
                    have G := Lib.hid (grown_trans' G.out hgw)
                    have R := Lib.hid hr
                    have qx21w := hgw.size
                    clear hr hgw
                    go_wp2_with fail
                    refine hK.out _ _ ?_ (fun hHeld => ?_)
                    · exact ⟨P0.cell0 rfl, P0.cell0 rfl, D0.cell0 rfl⟩
                    clear hK K'
                    try simp only [Act.put, List.setIfInBounds_toArray, List.set_cons_zero, List.set_cons_succ]
                    refine wpAnyH_ready (rs := [16, 22]) (by kernel_rfl) (by simp) ?_
                    refine AllReadyH.cons rfl (fun K' hK => ?_) (AllReadyH.cons rfl (fun K' hK => ?_) AllReadyH.nil)
                    · skip
                      refine if_yes (by rfl) ?_
                      try simp only [Act.put, List.setIfInBounds_toArray, List.set_cons_zero, List.set_cons_succ]
                      go_simp
                      refine (spec_pick B g _ 6 _ R.out (by omega)).mono ?_
                      rintro e x22w ⟨y3, rfl, hy30, hy31, hr, hgw, -⟩
                      have P0 := P0.near hgw (by omega)
                      have D0 := D0.near hgw (by omega)
                      have A := Lib.hid (A.out.near hgw (by omega))
                      have G := Lib.hid (grown_trans' G.out hgw)
                      have R := Lib.hid hr
                      have qx22w := hgw.size
                      clear hr hgw
                      go_wp2_with fail
                      have hwy : IntKind.i64.wrap (x51 + y3) = x51 + y3 := IntWalk.i64_in _ (by omega)
                      refine hK.out _ _ ?_ (fun hHeld => ?_)
                      · exact ⟨P0.cell0 rfl, P0.cell0 rfl, D0.cell0 rfl⟩
                      clear hK K'
                      try simp only [Act.put, List.setIfInBounds_toArray, List.set_cons_zero, List.set_cons_succ]
                      refine wpAnyH_take (i := 17) (v := ?_) rfl (by kernel_rfl) (by kernel_rfl) (by kernel_rfl) (fun _ _ _ h => h) (Or.inl ⟨by rfl, fun w' hS' => ?_⟩) (by assumption) ?_
                      rotate_left
                      · (try dsimp only at hS'); go_simp; (try rw [if_pos (by omega)]); try with_reducible rfl
                      try simp only [Act.put, List.getElem_toArray, List.getElem_cons_zero, List.getElem_cons_succ, List.setIfInBounds_toArray, List.set_cons_zero, List.set_cons_succ]
                      refine wpAnyH_take (i := 18) (v := ?_) rfl (by kernel_rfl) (by kernel_rfl) (by kernel_rfl) (fun _ _ _ h => h) (Or.inl ⟨by rfl, fun w' hS' => ?_⟩) (by assumption) ?_
                      rotate_left
                      · (try dsimp only at hS'); go_simp; (try rw [if_pos (by omega)]); try with_reducible rfl
                      try simp only [Act.put, List.getElem_toArray, List.getElem_cons_zero, List.getElem_cons_succ, List.setIfInBounds_toArray, List.set_cons_zero, List.set_cons_succ]
                      refine wpAnyH_ready (rs := [19, 22]) (by kernel_rfl) (by simp) ?_
                      refine AllReadyH.cons rfl (fun K' hK => ?_) (AllReadyH.cons rfl (fun K' hK => ?_) AllReadyH.nil)
                      · skip
                        refine if_yes (by rfl) ?_
                        try simp only [Act.put, List.setIfInBounds_toArray, List.set_cons_zero, List.set_cons_succ]
                        go_simp
                        obtain ⟨x23w, hx23w, L0, sx23w, ex23w⟩ := one_box x22w #[.int .i64 y1, .int .i64 y2, .int .i64 x51, .int .i64 (x51 + y3)] 50
                        rw [← hx23w.out]
                        have lhL := G.out.size
                        have P0 := P0.ext ex23w
                        have D0 := D0.ext ex23w
                        have A := Lib.hid (A.out.ext ex23w)
                        have R := Lib.hid (R.out.ext ex23w)
                        have G := Lib.hid (grown_ext' G.out ex23w)
                        have qx23w := (ex23w).size
                        obtain ⟨hL, HhL⟩ : ∃ b, Hid (b = x22w.heap.size) := ⟨_, rfl⟩
                        rw [← HhL.out] at L0 lhL ⊢
                        clear ex23w
                        refine hK.out _ _ ?_ (fun hHeld => ?_)
                        · exact ⟨P0.cell0 rfl, P0.cell0 rfl, D0.cell0 rfl⟩
                        clear hK K'
                        try simp only [Act.put, List.setIfInBounds_toArray, List.set_cons_zero, List.set_cons_succ]
                        refine wpAnyH_ready (rs := [20, 22]) (by kernel_rfl) (by simp) ?_
                        refine AllReadyH.cons rfl (fun K' hK => ?_) (AllReadyH.cons rfl (fun K' hK => ?_) AllReadyH.nil)
                        · skip
                          refine if_yes (by rfl) ?_
                          try simp only [Act.put, List.setIfInBounds_toArray, List.set_cons_zero, List.set_cons_succ]
                          refine wp_appPr _ (.tmp 65) (.tmp 80) rfl hT 0 (.slice aA l.length cA) l rfl A.out (.slice (some ⟨hL, 0, none⟩) 1 1) [⟨y1, y2, x51, x51 + y3⟩] rfl (Prs.ofBox1 (b := ⟨y1, y2, x51, x51 + y3⟩) L0 (Nat.zero_le _)) (by simp; omega) (by have := HhT.out; omega) ?_
                          intro v' x24w hv' hg'
                          obtain ⟨aX, cX, hve, -⟩ := hv'.open
                          rw [List.length_append, List.length_singleton] at hve
                          subst hve
                          have P0 := P0.grown hg' (own_off A.out P0 (by decide))
                          have D0 := D0.grown hg' (own_off A.out D0 (by decide))
                          have R := Lib.hid (R.out.grown hg' (fun e => by have := (A.out).lt _ e.symm; omega) (fun k hk => by have := (A.out).lt k hk; omega))
                          have G := Lib.hid (grown_high G.out hg' (fun k hk => by have := (A.out).lt k hk; omega))
                          have qx24w := hg'.size
                          have Xr := Lib.hid hv'
                          clear hv' hg' A L0
                          refine hK.out _ _ ?_ (fun hHeld => ?_)
                          · exact ⟨P0.cell0 rfl, P0.cell0 rfl, D0.cell0 rfl⟩
                          clear hK K'
                          try simp only [Act.put, List.setIfInBounds_toArray, List.set_cons_zero, List.set_cons_succ]
                          refine wpAnyH_take (i := 21) (v := ?_) rfl (by kernel_rfl) (by kernel_rfl) (by kernel_rfl) (fun _ _ _ h => h) (Or.inl ⟨by rfl, fun w' hS' => ?_⟩) (by assumption) ?_
                          rotate_left
                          · (try dsimp only at hS'); go_simp; (try rw [if_pos (by omega)]); try with_reducible rfl
                          try simp only [Act.put, List.getElem_toArray, List.getElem_cons_zero, List.getElem_cons_succ, List.setIfInBounds_toArray, List.set_cons_zero, List.set_cons_succ]
                          refine wpAnyH_ready (rs := [22]) (by kernel_rfl) (by simp) ?_
                          refine AllReadyH.cons rfl (fun K' hK => ?_) AllReadyH.nil
                          refine if_yes (by rfl) ?_
                          try simp only [Act.put, List.setIfInBounds_toArray, List.set_cons_zero, List.set_cons_succ]
                          go_simp
                          obtain ⟨x25w, hx25w, X0, sx25w, ex25w⟩ := one_box x24w #[.int .i64 0, .slice none 0 0, .slice none 0 0] 44
                          rw [← hx25w.out]
                          have lhX := G.out.size
                          have P0 := P0.ext ex25w
                          have D0 := D0.ext ex25w
                          have Xr := Lib.hid (Xr.out.ext ex25w)
                          have R := Lib.hid (R.out.ext ex25w)
                          have G := Lib.hid (grown_ext' G.out ex25w)
                          have qx25w := (ex25w).size
                          obtain ⟨hX, HhX⟩ : ∃ b, Hid (b = x24w.heap.size) := ⟨_, rfl⟩
                          rw [← HhX.out] at X0 lhX ⊢
                          clear ex25w
                          refine hK.out _ _ ?_ (fun hHeld => ?_)
                          · exact ⟨P0.cell0 rfl, P0.cell0 rfl, D0.cell0 rfl⟩
                          clear hK K'
                          try simp only [Act.put, List.setIfInBounds_toArray, List.set_cons_zero, List.set_cons_succ]
                          obtain ⟨rc9, rz9⟩ := (X0).rules; have rl9 := (X0).lt
                          refine wpAnyH_ready (rs := [23]) (by kernel_rfl) (by simp) ?_
                          refine AllReadyH.cons rfl (fun K' hK => ?_) AllReadyH.nil
                          refine if_yes (by rfl) ?_
                          try simp only [Act.put, List.setIfInBounds_toArray, List.set_cons_zero, List.set_cons_succ]
                          go_simp
                          have Xo := own_off Xr.out X0 (by decide)
                          have P0 := P0.far (p := ⟨hX, 0, none⟩) (by dsimp only; omega) (.int .i64 p.pts)
                          have D0 := D0.far (p := ⟨hX, 0, none⟩) (by dsimp only; omega) (.int .i64 p.pts)
                          have X0 := X0.set 0 (.int .i64 p.pts)
                          have Xr := Lib.hid (Xr.out.far (grown_set (i := 0) (World.grownBy.refl _ (some hX)) (.int .i64 p.pts)) (fun q hq e => Xo (e.trans hq.symm)))
                          have R := Lib.hid (R.out.set (p := ⟨hX, 0, none⟩) (by dsimp only; omega) (by dsimp only; omega) (.int .i64 p.pts))
                          have G := Lib.hid (grown_set' (k := hX) (i := 0) G.out lhX (.int .i64 p.pts))
                          have P0 := P0.far (p := ⟨hX, 1, none⟩) (by dsimp only; omega) (.slice av N cv)
                          have D0 := D0.far (p := ⟨hX, 1, none⟩) (by dsimp only; omega) (.slice av N cv)
                          have X0 := X0.set 1 (.slice av N cv)
                          have Xr := Lib.hid (Xr.out.far (grown_set (i := 1) (World.grownBy.refl _ (some hX)) (.slice av N cv)) (fun q hq e => Xo (e.trans hq.symm)))
                          have R := Lib.hid (R.out.set (p := ⟨hX, 1, none⟩) (by dsimp only; omega) (by dsimp only; omega) (.slice av N cv))
                          have G := Lib.hid (grown_set' (k := hX) (i := 1) G.out lhX (.slice av N cv))
                          have P0 := P0.far (p := ⟨hX, 2, none⟩) (by dsimp only; omega) (.slice aX (l.length + 1) cX)
                          have D0 := D0.far (p := ⟨hX, 2, none⟩) (by dsimp only; omega) (.slice aX (l.length + 1) cX)
                          have X0 := X0.set 2 (.slice aX (l.length + 1) cX)
                          have Xr := Lib.hid (Xr.out.far (grown_set (i := 2) (World.grownBy.refl _ (some hX)) (.slice aX (l.length + 1) cX)) (fun q hq e => Xo (e.trans hq.symm)))
                          have R := Lib.hid (R.out.set (p := ⟨hX, 2, none⟩) (by dsimp only; omega) (by dsimp only; omega) (.slice aX (l.length + 1) cX))
                          have G := Lib.hid (grown_set' (k := hX) (i := 2) G.out lhX (.slice aX (l.length + 1) cX))
                          obtain ⟨x26w, hx26w⟩ : ∃ x, Hid (x = (((x25w.setCell ⟨hX, 0, none⟩ (.int .i64 p.pts)).setCell ⟨hX, 1, none⟩ (.slice av N cv)).setCell ⟨hX, 2, none⟩ (.slice aX (l.length + 1) cX))) := ⟨_, rfl⟩
                          rw [← hx26w.out] at P0 D0 X0 Xr R G ⊢
                          clear rc9 rz9 rl9
                          refine hK.out _ _ ?_ (fun hHeld => ?_)
                          · exact ⟨P0.cell0 rfl, P0.cell0 rfl, D0.cell0 rfl⟩
                          clear hK K'
                          try simp only [Act.put, List.setIfInBounds_toArray, List.set_cons_zero, List.set_cons_succ]
                          refine wpAnyH_done (by kernel_rfl) ?_ _
                          try simp only [Act.put, List.setIfInBounds_toArray, List.set_cons_zero, List.set_cons_succ]
                          go_wp2_with fail
                          go_meet
                          exact ⟨hX, _, _, rfl, X0, lhX, Xr.out.base lhT, by simp, R.out.mono (by omega), G.out⟩
                        · skip
                          refine if_yes (by rfl) ?_
                          try simp only [Act.put, List.setIfInBounds_toArray, List.set_cons_zero, List.set_cons_succ]
                          go_simp
                          obtain ⟨x27w, hx27w, X0, sx27w, ex27w⟩ := one_box x23w #[.int .i64 0, .slice none 0 0, .slice none 0 0] 44
                          rw [← hx27w.out]
                          have lhX := G.out.size
                          have P0 := P0.ext ex27w
                          have D0 := D0.ext ex27w
                          have L0 := L0.ext ex27w
                          have A := Lib.hid (A.out.ext ex27w)
                          have R := Lib.hid (R.out.ext ex27w)
                          have G := Lib.hid (grown_ext' G.out ex27w)
                          have qx27w := (ex27w).size
                          obtain ⟨hX, HhX⟩ : ∃ b, Hid (b = x23w.heap.size) := ⟨_, rfl⟩
                          rw [← HhX.out] at X0 lhX ⊢
                          clear ex27w
                          refine hK.out _ _ ?_ (fun hHeld => ?_)
                          · exact ⟨P0.cell0 rfl, P0.cell0 rfl, D0.cell0 rfl⟩
                          clear hK K'
                          try simp only [Act.put, List.setIfInBounds_toArray, List.set_cons_zero, List.set_cons_succ]
                          refine wpAnyH_ready (rs := [20]) (by kernel_rfl) (by simp) ?_
                          refine AllReadyH.cons rfl (fun K' hK => ?_) AllReadyH.nil
                          refine if_yes (by rfl) ?_
                          try simp only [Act.put, List.setIfInBounds_toArray, List.set_cons_zero, List.set_cons_succ]
                          refine wp_appPr _ (.tmp 65) (.tmp 80) rfl hT 0 (.slice aA l.length cA) l rfl A.out (.slice (some ⟨hL, 0, none⟩) 1 1) [⟨y1, y2, x51, x51 + y3⟩] rfl (Prs.ofBox1 (b := ⟨y1, y2, x51, x51 + y3⟩) L0 (Nat.zero_le _)) (by simp; omega) (by have := HhT.out; omega) ?_
                          intro v' x28w hv' hg'
                          obtain ⟨aX, cX, hve, -⟩ := hv'.open
                          rw [List.length_append, List.length_singleton] at hve
                          subst hve
                          have P0 := P0.grown hg' (own_off A.out P0 (by decide))
                          have D0 := D0.grown hg' (own_off A.out D0 (by decide))
                          have X0 := X0.grown hg' (own_off A.out X0 (by decide))
                          have R := Lib.hid (R.out.grown hg' (fun e => by have := (A.out).lt _ e.symm; omega) (fun k hk => by have := (A.out).lt k hk; omega))
                          have G := Lib.hid (grown_high G.out hg' (fun k hk => by have := (A.out).lt k hk; omega))
                          have qx28w := hg'.size
                          have Xr := Lib.hid hv'
                          clear hv' hg' A L0
                          refine hK.out _ _ ?_ (fun hHeld => ?_)
                          · exact ⟨P0.cell0 rfl, P0.cell0 rfl, D0.cell0 rfl⟩
                          clear hK K'
                          try simp only [Act.put, List.setIfInBounds_toArray, List.set_cons_zero, List.set_cons_succ]
                          refine wpAnyH_take (i := 21) (v := ?_) rfl (by kernel_rfl) (by kernel_rfl) (by kernel_rfl) (fun _ _ _ h => h) (Or.inl ⟨by rfl, fun w' hS' => ?_⟩) (by assumption) ?_
                          rotate_left
                          · (try dsimp only at hS'); go_simp; (try rw [if_pos (by omega)]); try with_reducible rfl
                          try simp only [Act.put, List.getElem_toArray, List.getElem_cons_zero, List.getElem_cons_succ, List.setIfInBounds_toArray, List.set_cons_zero, List.set_cons_succ]
                          obtain ⟨rc9, rz9⟩ := (X0).rules; have rl9 := (X0).lt
                          refine wpAnyH_ready (rs := [23]) (by kernel_rfl) (by simp) ?_
                          refine AllReadyH.cons rfl (fun K' hK => ?_) AllReadyH.nil
                          refine if_yes (by rfl) ?_
                          try simp only [Act.put, List.setIfInBounds_toArray, List.set_cons_zero, List.set_cons_succ]
                          go_simp
                          have Xo := own_off Xr.out X0 (by decide)
                          have P0 := P0.far (p := ⟨hX, 0, none⟩) (by dsimp only; omega) (.int .i64 p.pts)
                          have D0 := D0.far (p := ⟨hX, 0, none⟩) (by dsimp only; omega) (.int .i64 p.pts)
                          have X0 := X0.set 0 (.int .i64 p.pts)
                          have Xr := Lib.hid (Xr.out.far (grown_set (i := 0) (World.grownBy.refl _ (some hX)) (.int .i64 p.pts)) (fun q hq e => Xo (e.trans hq.symm)))
                          have R := Lib.hid (R.out.set (p := ⟨hX, 0, none⟩) (by dsimp only; omega) (by dsimp only; omega) (.int .i64 p.pts))
                          have G := Lib.hid (grown_set' (k := hX) (i := 0) G.out lhX (.int .i64 p.pts))
                          have P0 := P0.far (p := ⟨hX, 1, none⟩) (by dsimp only; omega) (.slice av N cv)
                          have D0 := D0.far (p := ⟨hX, 1, none⟩) (by dsimp only; omega) (.slice av N cv)
                          have X0 := X0.set 1 (.slice av N cv)
                          have Xr := Lib.hid (Xr.out.far (grown_set (i := 1) (World.grownBy.refl _ (some hX)) (.slice av N cv)) (fun q hq e => Xo (e.trans hq.symm)))
                          have R := Lib.hid (R.out.set (p := ⟨hX, 1, none⟩) (by dsimp only; omega) (by dsimp only; omega) (.slice av N cv))
                          have G := Lib.hid (grown_set' (k := hX) (i := 1) G.out lhX (.slice av N cv))
                          have P0 := P0.far (p := ⟨hX, 2, none⟩) (by dsimp only; omega) (.slice aX (l.length + 1) cX)
                          have D0 := D0.far (p := ⟨hX, 2, none⟩) (by dsimp only; omega) (.slice aX (l.length + 1) cX)
                          have X0 := X0.set 2 (.slice aX (l.length + 1) cX)
                          have Xr := Lib.hid (Xr.out.far (grown_set (i := 2) (World.grownBy.refl _ (some hX)) (.slice aX (l.length + 1) cX)) (fun q hq e => Xo (e.trans hq.symm)))
                          have R := Lib.hid (R.out.set (p := ⟨hX, 2, none⟩) (by dsimp only; omega) (by dsimp only; omega) (.slice aX (l.length + 1) cX))
                          have G := Lib.hid (grown_set' (k := hX) (i := 2) G.out lhX (.slice aX (l.length + 1) cX))
                          obtain ⟨x29w, hx29w⟩ : ∃ x, Hid (x = (((x28w.setCell ⟨hX, 0, none⟩ (.int .i64 p.pts)).setCell ⟨hX, 1, none⟩ (.slice av N cv)).setCell ⟨hX, 2, none⟩ (.slice aX (l.length + 1) cX))) := ⟨_, rfl⟩
                          rw [← hx29w.out] at P0 D0 X0 Xr R G ⊢
                          clear rc9 rz9 rl9
                          refine hK.out _ _ ?_ (fun hHeld => ?_)
                          · exact ⟨P0.cell0 rfl, P0.cell0 rfl, D0.cell0 rfl⟩
                          clear hK K'
                          try simp only [Act.put, List.setIfInBounds_toArray, List.set_cons_zero, List.set_cons_succ]
                          refine wpAnyH_done (by kernel_rfl) ?_ _
                          try simp only [Act.put, List.setIfInBounds_toArray, List.set_cons_zero, List.set_cons_succ]
                          go_wp2_with fail
                          go_meet
                          exact ⟨hX, _, _, rfl, X0, lhX, Xr.out.base lhT, by simp, R.out.mono (by omega), G.out⟩
                      · skip
                        refine if_yes (by rfl) ?_
                        try simp only [Act.put, List.setIfInBounds_toArray, List.set_cons_zero, List.set_cons_succ]
                        go_simp
                        obtain ⟨x30w, hx30w, X0, sx30w, ex30w⟩ := one_box x22w #[.int .i64 0, .slice none 0 0, .slice none 0 0] 44
                        rw [← hx30w.out]
                        have lhX := G.out.size
                        have P0 := P0.ext ex30w
                        have D0 := D0.ext ex30w
                        have A := Lib.hid (A.out.ext ex30w)
                        have R := Lib.hid (R.out.ext ex30w)
                        have G := Lib.hid (grown_ext' G.out ex30w)
                        have qx30w := (ex30w).size
                        obtain ⟨hX, HhX⟩ : ∃ b, Hid (b = x22w.heap.size) := ⟨_, rfl⟩
                        rw [← HhX.out] at X0 lhX ⊢
                        clear ex30w
                        refine hK.out _ _ ?_ (fun hHeld => ?_)
                        · exact ⟨P0.cell0 rfl, P0.cell0 rfl, D0.cell0 rfl⟩
                        clear hK K'
                        try simp only [Act.put, List.setIfInBounds_toArray, List.set_cons_zero, List.set_cons_succ]
                        refine wpAnyH_ready (rs := [19]) (by kernel_rfl) (by simp) ?_
                        refine AllReadyH.cons rfl (fun K' hK => ?_) AllReadyH.nil
                        refine if_yes (by rfl) ?_
                        try simp only [Act.put, List.setIfInBounds_toArray, List.set_cons_zero, List.set_cons_succ]
                        go_simp
                        obtain ⟨x31w, hx31w, L0, sx31w, ex31w⟩ := one_box x30w #[.int .i64 y1, .int .i64 y2, .int .i64 x51, .int .i64 (x51 + y3)] 50
                        rw [← hx31w.out]
                        have lhL := G.out.size
                        have P0 := P0.ext ex31w
                        have D0 := D0.ext ex31w
                        have X0 := X0.ext ex31w
                        have A := Lib.hid (A.out.ext ex31w)
                        have R := Lib.hid (R.out.ext ex31w)
                        have G := Lib.hid (grown_ext' G.out ex31w)
                        have qx31w := (ex31w).size
                        obtain ⟨hL, HhL⟩ : ∃ b, Hid (b = x30w.heap.size) := ⟨_, rfl⟩
                        rw [← HhL.out] at L0 lhL ⊢
                        clear ex31w
                        refine hK.out _ _ ?_ (fun hHeld => ?_)
                        · exact ⟨P0.cell0 rfl, P0.cell0 rfl, D0.cell0 rfl⟩
                        clear hK K'
                        try simp only [Act.put, List.setIfInBounds_toArray, List.set_cons_zero, List.set_cons_succ]
                        refine wpAnyH_ready (rs := [20]) (by kernel_rfl) (by simp) ?_
                        refine AllReadyH.cons rfl (fun K' hK => ?_) AllReadyH.nil
                        refine if_yes (by rfl) ?_
                        try simp only [Act.put, List.setIfInBounds_toArray, List.set_cons_zero, List.set_cons_succ]
                        refine wp_appPr _ (.tmp 65) (.tmp 80) rfl hT 0 (.slice aA l.length cA) l rfl A.out (.slice (some ⟨hL, 0, none⟩) 1 1) [⟨y1, y2, x51, x51 + y3⟩] rfl (Prs.ofBox1 (b := ⟨y1, y2, x51, x51 + y3⟩) L0 (Nat.zero_le _)) (by simp; omega) (by have := HhT.out; omega) ?_
                        intro v' x32w hv' hg'
                        obtain ⟨aX, cX, hve, -⟩ := hv'.open
                        rw [List.length_append, List.length_singleton] at hve
                        subst hve
                        have P0 := P0.grown hg' (own_off A.out P0 (by decide))
                        have D0 := D0.grown hg' (own_off A.out D0 (by decide))
                        have X0 := X0.grown hg' (own_off A.out X0 (by decide))
                        have R := Lib.hid (R.out.grown hg' (fun e => by have := (A.out).lt _ e.symm; omega) (fun k hk => by have := (A.out).lt k hk; omega))
                        have G := Lib.hid (grown_high G.out hg' (fun k hk => by have := (A.out).lt k hk; omega))
                        have qx32w := hg'.size
                        have Xr := Lib.hid hv'
                        clear hv' hg' A L0
                        refine hK.out _ _ ?_ (fun hHeld => ?_)
                        · exact ⟨P0.cell0 rfl, P0.cell0 rfl, D0.cell0 rfl⟩
                        clear hK K'
                        try simp only [Act.put, List.setIfInBounds_toArray, List.set_cons_zero, List.set_cons_succ]
                        refine wpAnyH_take (i := 21) (v := ?_) rfl (by kernel_rfl) (by kernel_rfl) (by kernel_rfl) (fun _ _ _ h => h) (Or.inl ⟨by rfl, fun w' hS' => ?_⟩) (by assumption) ?_
                        rotate_left
                        · (try dsimp only at hS'); go_simp; (try rw [if_pos (by omega)]); try with_reducible rfl
                        try simp only [Act.put, List.getElem_toArray, List.getElem_cons_zero, List.getElem_cons_succ, List.setIfInBounds_toArray, List.set_cons_zero, List.set_cons_succ]
                        obtain ⟨rc9, rz9⟩ := (X0).rules; have rl9 := (X0).lt
                        refine wpAnyH_ready (rs := [23]) (by kernel_rfl) (by simp) ?_
                        refine AllReadyH.cons rfl (fun K' hK => ?_) AllReadyH.nil
                        refine if_yes (by rfl) ?_
                        try simp only [Act.put, List.setIfInBounds_toArray, List.set_cons_zero, List.set_cons_succ]
                        go_simp
                        have Xo := own_off Xr.out X0 (by decide)
                        have P0 := P0.far (p := ⟨hX, 0, none⟩) (by dsimp only; omega) (.int .i64 p.pts)
                        have D0 := D0.far (p := ⟨hX, 0, none⟩) (by dsimp only; omega) (.int .i64 p.pts)
                        have X0 := X0.set 0 (.int .i64 p.pts)
                        have Xr := Lib.hid (Xr.out.far (grown_set (i := 0) (World.grownBy.refl _ (some hX)) (.int .i64 p.pts)) (fun q hq e => Xo (e.trans hq.symm)))
                        have R := Lib.hid (R.out.set (p := ⟨hX, 0, none⟩) (by dsimp only; omega) (by dsimp only; omega) (.int .i64 p.pts))
                        have G := Lib.hid (grown_set' (k := hX) (i := 0) G.out lhX (.int .i64 p.pts))
                        have P0 := P0.far (p := ⟨hX, 1, none⟩) (by dsimp only; omega) (.slice av N cv)
                        have D0 := D0.far (p := ⟨hX, 1, none⟩) (by dsimp only; omega) (.slice av N cv)
                        have X0 := X0.set 1 (.slice av N cv)
                        have Xr := Lib.hid (Xr.out.far (grown_set (i := 1) (World.grownBy.refl _ (some hX)) (.slice av N cv)) (fun q hq e => Xo (e.trans hq.symm)))
                        have R := Lib.hid (R.out.set (p := ⟨hX, 1, none⟩) (by dsimp only; omega) (by dsimp only; omega) (.slice av N cv))
                        have G := Lib.hid (grown_set' (k := hX) (i := 1) G.out lhX (.slice av N cv))
                        have P0 := P0.far (p := ⟨hX, 2, none⟩) (by dsimp only; omega) (.slice aX (l.length + 1) cX)
                        have D0 := D0.far (p := ⟨hX, 2, none⟩) (by dsimp only; omega) (.slice aX (l.length + 1) cX)
                        have X0 := X0.set 2 (.slice aX (l.length + 1) cX)
                        have Xr := Lib.hid (Xr.out.far (grown_set (i := 2) (World.grownBy.refl _ (some hX)) (.slice aX (l.length + 1) cX)) (fun q hq e => Xo (e.trans hq.symm)))
                        have R := Lib.hid (R.out.set (p := ⟨hX, 2, none⟩) (by dsimp only; omega) (by dsimp only; omega) (.slice aX (l.length + 1) cX))
                        have G := Lib.hid (grown_set' (k := hX) (i := 2) G.out lhX (.slice aX (l.length + 1) cX))
                        obtain ⟨x33w, hx33w⟩ : ∃ x, Hid (x = (((x32w.setCell ⟨hX, 0, none⟩ (.int .i64 p.pts)).setCell ⟨hX, 1, none⟩ (.slice av N cv)).setCell ⟨hX, 2, none⟩ (.slice aX (l.length + 1) cX))) := ⟨_, rfl⟩
                        rw [← hx33w.out] at P0 D0 X0 Xr R G ⊢
                        clear rc9 rz9 rl9
                        refine hK.out _ _ ?_ (fun hHeld => ?_)
                        · exact ⟨P0.cell0 rfl, P0.cell0 rfl, D0.cell0 rfl⟩
                        clear hK K'
                        try simp only [Act.put, List.setIfInBounds_toArray, List.set_cons_zero, List.set_cons_succ]
                        refine wpAnyH_done (by kernel_rfl) ?_ _
                        try simp only [Act.put, List.setIfInBounds_toArray, List.set_cons_zero, List.set_cons_succ]
                        go_wp2_with fail
                        go_meet
                        exact ⟨hX, _, _, rfl, X0, lhX, Xr.out.base lhT, by simp, R.out.mono (by omega), G.out⟩
                    · skip
                      refine if_yes (by rfl) ?_
                      try simp only [Act.put, List.setIfInBounds_toArray, List.set_cons_zero, List.set_cons_succ]
                      go_simp
                      obtain ⟨x34w, hx34w, X0, sx34w, ex34w⟩ := one_box x21w #[.int .i64 0, .slice none 0 0, .slice none 0 0] 44
                      rw [← hx34w.out]
                      have lhX := G.out.size
                      have P0 := P0.ext ex34w
                      have D0 := D0.ext ex34w
                      have A := Lib.hid (A.out.ext ex34w)
                      have R := Lib.hid (R.out.ext ex34w)
                      have G := Lib.hid (grown_ext' G.out ex34w)
                      have qx34w := (ex34w).size
                      obtain ⟨hX, HhX⟩ : ∃ b, Hid (b = x21w.heap.size) := ⟨_, rfl⟩
                      rw [← HhX.out] at X0 lhX ⊢
                      clear ex34w
                      refine hK.out _ _ ?_ (fun hHeld => ?_)
                      · exact ⟨P0.cell0 rfl, P0.cell0 rfl, D0.cell0 rfl⟩
                      clear hK K'
                      try simp only [Act.put, List.setIfInBounds_toArray, List.set_cons_zero, List.set_cons_succ]
                      refine wpAnyH_ready (rs := [16]) (by kernel_rfl) (by simp) ?_
                      refine AllReadyH.cons rfl (fun K' hK => ?_) AllReadyH.nil
                      refine if_yes (by rfl) ?_
                      try simp only [Act.put, List.setIfInBounds_toArray, List.set_cons_zero, List.set_cons_succ]
                      go_simp
                      refine (spec_pick B g _ 6 _ R.out (by omega)).mono ?_
                      rintro e x35w ⟨y3, rfl, hy30, hy31, hr, hgw, -⟩
                      have P0 := P0.near hgw (by omega)
                      have D0 := D0.near hgw (by omega)
                      have X0 := X0.near hgw (by omega)
                      have A := Lib.hid (A.out.near hgw (by omega))
                      have G := Lib.hid (grown_trans' G.out hgw)
                      have R := Lib.hid hr
                      have qx35w := hgw.size
                      clear hr hgw
                      go_wp2_with fail
                      have hwy : IntKind.i64.wrap (x51 + y3) = x51 + y3 := IntWalk.i64_in _ (by omega)
                      refine hK.out _ _ ?_ (fun hHeld => ?_)
                      · exact ⟨P0.cell0 rfl, P0.cell0 rfl, D0.cell0 rfl⟩
                      clear hK K'
                      try simp only [Act.put, List.setIfInBounds_toArray, List.set_cons_zero, List.set_cons_succ]
                      refine wpAnyH_take (i := 17) (v := ?_) rfl (by kernel_rfl) (by kernel_rfl) (by kernel_rfl) (fun _ _ _ h => h) (Or.inl ⟨by rfl, fun w' hS' => ?_⟩) (by assumption) ?_
                      rotate_left
                      · (try dsimp only at hS'); go_simp; (try rw [if_pos (by omega)]); try with_reducible rfl
                      try simp only [Act.put, List.getElem_toArray, List.getElem_cons_zero, List.getElem_cons_succ, List.setIfInBounds_toArray, List.set_cons_zero, List.set_cons_succ]
                      refine wpAnyH_take (i := 18) (v := ?_) rfl (by kernel_rfl) (by kernel_rfl) (by kernel_rfl) (fun _ _ _ h => h) (Or.inl ⟨by rfl, fun w' hS' => ?_⟩) (by assumption) ?_
                      rotate_left
                      · (try dsimp only at hS'); go_simp; (try rw [if_pos (by omega)]); try with_reducible rfl
                      try simp only [Act.put, List.getElem_toArray, List.getElem_cons_zero, List.getElem_cons_succ, List.setIfInBounds_toArray, List.set_cons_zero, List.set_cons_succ]
                      refine wpAnyH_ready (rs := [19]) (by kernel_rfl) (by simp) ?_
                      refine AllReadyH.cons rfl (fun K' hK => ?_) AllReadyH.nil
                      refine if_yes (by rfl) ?_
                      try simp only [Act.put, List.setIfInBounds_toArray, List.set_cons_zero, List.set_cons_succ]
                      go_simp
                      obtain ⟨x36w, hx36w, L0, sx36w, ex36w⟩ := one_box x35w #[.int .i64 y1, .int .i64 y2, .int .i64 x51, .int .i64 (x51 + y3)] 50
                      rw [← hx36w.out]
                      have lhL := G.out.size
                      have P0 := P0.ext ex36w
                      have D0 := D0.ext ex36w
                      have X0 := X0.ext ex36w
                      have A := Lib.hid (A.out.ext ex36w)
                      have R := Lib.hid (R.out.ext ex36w)
                      have G := Lib.hid (grown_ext' G.out ex36w)
                      have qx36w := (ex36w).size
                      obtain ⟨hL, HhL⟩ : ∃ b, Hid (b = x35w.heap.size) := ⟨_, rfl⟩
                      rw [← HhL.out] at L0 lhL ⊢
                      clear ex36w
                      refine hK.out _ _ ?_ (fun hHeld => ?_)
                      · exact ⟨P0.cell0 rfl, P0.cell0 rfl, D0.cell0 rfl⟩
                      clear hK K'
                      try simp only [Act.put, List.setIfInBounds_toArray, List.set_cons_zero, List.set_cons_succ]
                      refine wpAnyH_ready (rs := [20]) (by kernel_rfl) (by simp) ?_
                      refine AllReadyH.cons rfl (fun K' hK => ?_) AllReadyH.nil
                      refine if_yes (by rfl) ?_
                      try simp only [Act.put, List.setIfInBounds_toArray, List.set_cons_zero, List.set_cons_succ]
                      refine wp_appPr _ (.tmp 65) (.tmp 80) rfl hT 0 (.slice aA l.length cA) l rfl A.out (.slice (some ⟨hL, 0, none⟩) 1 1) [⟨y1, y2, x51, x51 + y3⟩] rfl (Prs.ofBox1 (b := ⟨y1, y2, x51, x51 + y3⟩) L0 (Nat.zero_le _)) (by simp; omega) (by have := HhT.out; omega) ?_
                      intro v' x37w hv' hg'
                      obtain ⟨aX, cX, hve, -⟩ := hv'.open
                      rw [List.length_append, List.length_singleton] at hve
                      subst hve
                      have P0 := P0.grown hg' (own_off A.out P0 (by decide))
                      have D0 := D0.grown hg' (own_off A.out D0 (by decide))
                      have X0 := X0.grown hg' (own_off A.out X0 (by decide))
                      have R := Lib.hid (R.out.grown hg' (fun e => by have := (A.out).lt _ e.symm; omega) (fun k hk => by have := (A.out).lt k hk; omega))
                      have G := Lib.hid (grown_high G.out hg' (fun k hk => by have := (A.out).lt k hk; omega))
                      have qx37w := hg'.size
                      have Xr := Lib.hid hv'
                      clear hv' hg' A L0
                      refine hK.out _ _ ?_ (fun hHeld => ?_)
                      · exact ⟨P0.cell0 rfl, P0.cell0 rfl, D0.cell0 rfl⟩
                      clear hK K'
                      try simp only [Act.put, List.setIfInBounds_toArray, List.set_cons_zero, List.set_cons_succ]
                      refine wpAnyH_take (i := 21) (v := ?_) rfl (by kernel_rfl) (by kernel_rfl) (by kernel_rfl) (fun _ _ _ h => h) (Or.inl ⟨by rfl, fun w' hS' => ?_⟩) (by assumption) ?_
                      rotate_left
                      · (try dsimp only at hS'); go_simp; (try rw [if_pos (by omega)]); try with_reducible rfl
                      try simp only [Act.put, List.getElem_toArray, List.getElem_cons_zero, List.getElem_cons_succ, List.setIfInBounds_toArray, List.set_cons_zero, List.set_cons_succ]
                      obtain ⟨rc9, rz9⟩ := (X0).rules; have rl9 := (X0).lt
                      refine wpAnyH_ready (rs := [23]) (by kernel_rfl) (by simp) ?_
                      refine AllReadyH.cons rfl (fun K' hK => ?_) AllReadyH.nil
                      refine if_yes (by rfl) ?_
                      try simp only [Act.put, List.setIfInBounds_toArray, List.set_cons_zero, List.set_cons_succ]
                      go_simp
                      have Xo := own_off Xr.out X0 (by decide)
                      have P0 := P0.far (p := ⟨hX, 0, none⟩) (by dsimp only; omega) (.int .i64 p.pts)
                      have D0 := D0.far (p := ⟨hX, 0, none⟩) (by dsimp only; omega) (.int .i64 p.pts)
                      have X0 := X0.set 0 (.int .i64 p.pts)
                      have Xr := Lib.hid (Xr.out.far (grown_set (i := 0) (World.grownBy.refl _ (some hX)) (.int .i64 p.pts)) (fun q hq e => Xo (e.trans hq.symm)))
                      have R := Lib.hid (R.out.set (p := ⟨hX, 0, none⟩) (by dsimp only; omega) (by dsimp only; omega) (.int .i64 p.pts))
                      have G := Lib.hid (grown_set' (k := hX) (i := 0) G.out lhX (.int .i64 p.pts))
                      have P0 := P0.far (p := ⟨hX, 1, none⟩) (by dsimp only; omega) (.slice av N cv)
                      have D0 := D0.far (p := ⟨hX, 1, none⟩) (by dsimp only; omega) (.slice av N cv)
                      have X0 := X0.set 1 (.slice av N cv)
                      have Xr := Lib.hid (Xr.out.far (grown_set (i := 1) (World.grownBy.refl _ (some hX)) (.slice av N cv)) (fun q hq e => Xo (e.trans hq.symm)))
                      have R := Lib.hid (R.out.set (p := ⟨hX, 1, none⟩) (by dsimp only; omega) (by dsimp only; omega) (.slice av N cv))
                      have G := Lib.hid (grown_set' (k := hX) (i := 1) G.out lhX (.slice av N cv))
                      have P0 := P0.far (p := ⟨hX, 2, none⟩) (by dsimp only; omega) (.slice aX (l.length + 1) cX)
                      have D0 := D0.far (p := ⟨hX, 2, none⟩) (by dsimp only; omega) (.slice aX (l.length + 1) cX)
                      have X0 := X0.set 2 (.slice aX (l.length + 1) cX)
                      have Xr := Lib.hid (Xr.out.far (grown_set (i := 2) (World.grownBy.refl _ (some hX)) (.slice aX (l.length + 1) cX)) (fun q hq e => Xo (e.trans hq.symm)))
                      have R := Lib.hid (R.out.set (p := ⟨hX, 2, none⟩) (by dsimp only; omega) (by dsimp only; omega) (.slice aX (l.length + 1) cX))
                      have G := Lib.hid (grown_set' (k := hX) (i := 2) G.out lhX (.slice aX (l.length + 1) cX))
                      obtain ⟨x38w, hx38w⟩ : ∃ x, Hid (x = (((x37w.setCell ⟨hX, 0, none⟩ (.int .i64 p.pts)).setCell ⟨hX, 1, none⟩ (.slice av N cv)).setCell ⟨hX, 2, none⟩ (.slice aX (l.length + 1) cX))) := ⟨_, rfl⟩
                      rw [← hx38w.out] at P0 D0 X0 Xr R G ⊢
                      clear rc9 rz9 rl9
                      refine hK.out _ _ ?_ (fun hHeld => ?_)
                      · exact ⟨P0.cell0 rfl, P0.cell0 rfl, D0.cell0 rfl⟩
                      clear hK K'
                      try simp only [Act.put, List.setIfInBounds_toArray, List.set_cons_zero, List.set_cons_succ]
                      refine wpAnyH_done (by kernel_rfl) ?_ _
                      try simp only [Act.put, List.setIfInBounds_toArray, List.set_cons_zero, List.set_cons_succ]
                      go_wp2_with fail
                      go_meet
                      exact ⟨hX, _, _, rfl, X0, lhX, Xr.out.base lhT, by simp, R.out.mono (by omega), G.out⟩
                  · skip
                    refine if_yes (by rfl) ?_
                    try simp only [Act.put, List.setIfInBounds_toArray, List.set_cons_zero, List.set_cons_succ]
                    go_simp
                    obtain ⟨x39w, hx39w, X0, sx39w, ex39w⟩ := one_box x20w #[.int .i64 0, .slice none 0 0, .slice none 0 0] 44
                    rw [← hx39w.out]
                    have lhX := G.out.size
                    have P0 := P0.ext ex39w
                    have D0 := D0.ext ex39w
                    have A := Lib.hid (A.out.ext ex39w)
                    have R := Lib.hid (R.out.ext ex39w)
                    have G := Lib.hid (grown_ext' G.out ex39w)
                    have qx39w := (ex39w).size
                    obtain ⟨hX, HhX⟩ : ∃ b, Hid (b = x20w.heap.size) := ⟨_, rfl⟩
                    rw [← HhX.out] at X0 lhX ⊢
                    clear ex39w
                    refine hK.out _ _ ?_ (fun hHeld => ?_)
                    · exact ⟨P0.cell0 rfl, P0.cell0 rfl, D0.cell0 rfl⟩
                    clear hK K'
                    try simp only [Act.put, List.setIfInBounds_toArray, List.set_cons_zero, List.set_cons_succ]
                    refine wpAnyH_ready (rs := [12]) (by kernel_rfl) (by simp) ?_
                    refine AllReadyH.cons rfl (fun K' hK => ?_) AllReadyH.nil
                    refine if_yes (by rfl) ?_
                    try simp only [Act.put, List.setIfInBounds_toArray, List.set_cons_zero, List.set_cons_succ]
                    go_simp
                    refine (spec_pick B g _ p.pts _ R.out (by omega)).mono ?_
                    rintro e x40w ⟨y2, rfl, hy20, hy21, hr, hgw, -⟩
                    have P0 := P0.near hgw (by omega)
                    have D0 := D0.near hgw (by omega)
                    have X0 := X0.near hgw (by omega)
                    have A := Lib.hid (A.out.near hgw (by omega))
                    have G := Lib.hid (grown_trans' G.out hgw)
                    have R := Lib.hid hr
                    have qx40w := hgw.size
                    clear hr hgw
                    go_wp2_with fail
                    refine hK.out _ _ ?_ (fun hHeld => ?_)
                    · exact ⟨P0.cell0 rfl, P0.cell0 rfl, D0.cell0 rfl⟩
                    clear hK K'
                    try simp only [Act.put, List.setIfInBounds_toArray, List.set_cons_zero, List.set_cons_succ]
                    refine wpAnyH_ready (rs := [16]) (by kernel_rfl) (by simp) ?_
                    refine AllReadyH.cons rfl (fun K' hK => ?_) AllReadyH.nil
                    refine if_yes (by rfl) ?_
                    try simp only [Act.put, List.setIfInBounds_toArray, List.set_cons_zero, List.set_cons_succ]
                    go_simp
                    refine (spec_pick B g _ 6 _ R.out (by omega)).mono ?_
                    rintro e x41w ⟨y3, rfl, hy30, hy31, hr, hgw, -⟩
                    have P0 := P0.near hgw (by omega)
                    have D0 := D0.near hgw (by omega)
                    have X0 := X0.near hgw (by omega)
                    have A := Lib.hid (A.out.near hgw (by omega))
                    have G := Lib.hid (grown_trans' G.out hgw)
                    have R := Lib.hid hr
                    have qx41w := hgw.size
                    clear hr hgw
                    go_wp2_with fail
                    have hwy : IntKind.i64.wrap (x51 + y3) = x51 + y3 := IntWalk.i64_in _ (by omega)
                    refine hK.out _ _ ?_ (fun hHeld => ?_)
                    · exact ⟨P0.cell0 rfl, P0.cell0 rfl, D0.cell0 rfl⟩
                    clear hK K'
                    try simp only [Act.put, List.setIfInBounds_toArray, List.set_cons_zero, List.set_cons_succ]
                    refine wpAnyH_take (i := 17) (v := ?_) rfl (by kernel_rfl) (by kernel_rfl) (by kernel_rfl) (fun _ _ _ h => h) (Or.inl ⟨by rfl, fun w' hS' => ?_⟩) (by assumption) ?_
                    rotate_left
                    · (try dsimp only at hS'); go_simp; (try rw [if_pos (by omega)]); try with_reducible rfl
                    try simp only [Act.put, List.getElem_toArray, List.getElem_cons_zero, List.getElem_cons_succ, List.setIfInBounds_toArray, List.set_cons_zero, List.set_cons_succ]
                    refine wpAnyH_take (i := 18) (v := ?_) rfl (by kernel_rfl) (by kernel_rfl) (by kernel_rfl) (fun _ _ _ h => h) (Or.inl ⟨by rfl, fun w' hS' => ?_⟩) (by assumption) ?_
                    rotate_left
                    · (try dsimp only at hS'); go_simp; (try rw [if_pos (by omega)]); try with_reducible rfl
                    try simp only [Act.put, List.getElem_toArray, List.getElem_cons_zero, List.getElem_cons_succ, List.setIfInBounds_toArray, List.set_cons_zero, List.set_cons_succ]
                    refine wpAnyH_ready (rs := [19]) (by kernel_rfl) (by simp) ?_
                    refine AllReadyH.cons rfl (fun K' hK => ?_) AllReadyH.nil
                    refine if_yes (by rfl) ?_
                    try simp only [Act.put, List.setIfInBounds_toArray, List.set_cons_zero, List.set_cons_succ]
                    go_simp
                    obtain ⟨x42w, hx42w, L0, sx42w, ex42w⟩ := one_box x41w #[.int .i64 y1, .int .i64 y2, .int .i64 x51, .int .i64 (x51 + y3)] 50
                    rw [← hx42w.out]
                    have lhL := G.out.size
                    have P0 := P0.ext ex42w
                    have D0 := D0.ext ex42w
                    have X0 := X0.ext ex42w
                    have A := Lib.hid (A.out.ext ex42w)
                    have R := Lib.hid (R.out.ext ex42w)
                    have G := Lib.hid (grown_ext' G.out ex42w)
                    have qx42w := (ex42w).size
                    obtain ⟨hL, HhL⟩ : ∃ b, Hid (b = x41w.heap.size) := ⟨_, rfl⟩
                    rw [← HhL.out] at L0 lhL ⊢
                    clear ex42w
                    refine hK.out _ _ ?_ (fun hHeld => ?_)
                    · exact ⟨P0.cell0 rfl, P0.cell0 rfl, D0.cell0 rfl⟩
                    clear hK K'
                    try simp only [Act.put, List.setIfInBounds_toArray, List.set_cons_zero, List.set_cons_succ]
                    refine wpAnyH_ready (rs := [20]) (by kernel_rfl) (by simp) ?_
                    refine AllReadyH.cons rfl (fun K' hK => ?_) AllReadyH.nil
                    refine if_yes (by rfl) ?_
                    try simp only [Act.put, List.setIfInBounds_toArray, List.set_cons_zero, List.set_cons_succ]
                    refine wp_appPr _ (.tmp 65) (.tmp 80) rfl hT 0 (.slice aA l.length cA) l rfl A.out (.slice (some ⟨hL, 0, none⟩) 1 1) [⟨y1, y2, x51, x51 + y3⟩] rfl (Prs.ofBox1 (b := ⟨y1, y2, x51, x51 + y3⟩) L0 (Nat.zero_le _)) (by simp; omega) (by have := HhT.out; omega) ?_
                    intro v' x43w hv' hg'
                    obtain ⟨aX, cX, hve, -⟩ := hv'.open
                    rw [List.length_append, List.length_singleton] at hve
                    subst hve
                    have P0 := P0.grown hg' (own_off A.out P0 (by decide))
                    have D0 := D0.grown hg' (own_off A.out D0 (by decide))
                    have X0 := X0.grown hg' (own_off A.out X0 (by decide))
                    have R := Lib.hid (R.out.grown hg' (fun e => by have := (A.out).lt _ e.symm; omega) (fun k hk => by have := (A.out).lt k hk; omega))
                    have G := Lib.hid (grown_high G.out hg' (fun k hk => by have := (A.out).lt k hk; omega))
                    have qx43w := hg'.size
                    have Xr := Lib.hid hv'
                    clear hv' hg' A L0
                    refine hK.out _ _ ?_ (fun hHeld => ?_)
                    · exact ⟨P0.cell0 rfl, P0.cell0 rfl, D0.cell0 rfl⟩
                    clear hK K'
                    try simp only [Act.put, List.setIfInBounds_toArray, List.set_cons_zero, List.set_cons_succ]
                    refine wpAnyH_take (i := 21) (v := ?_) rfl (by kernel_rfl) (by kernel_rfl) (by kernel_rfl) (fun _ _ _ h => h) (Or.inl ⟨by rfl, fun w' hS' => ?_⟩) (by assumption) ?_
                    rotate_left
                    · (try dsimp only at hS'); go_simp; (try rw [if_pos (by omega)]); try with_reducible rfl
                    try simp only [Act.put, List.getElem_toArray, List.getElem_cons_zero, List.getElem_cons_succ, List.setIfInBounds_toArray, List.set_cons_zero, List.set_cons_succ]
                    obtain ⟨rc9, rz9⟩ := (X0).rules; have rl9 := (X0).lt
                    refine wpAnyH_ready (rs := [23]) (by kernel_rfl) (by simp) ?_
                    refine AllReadyH.cons rfl (fun K' hK => ?_) AllReadyH.nil
                    refine if_yes (by rfl) ?_
                    try simp only [Act.put, List.setIfInBounds_toArray, List.set_cons_zero, List.set_cons_succ]
                    go_simp
                    have Xo := own_off Xr.out X0 (by decide)
                    have P0 := P0.far (p := ⟨hX, 0, none⟩) (by dsimp only; omega) (.int .i64 p.pts)
                    have D0 := D0.far (p := ⟨hX, 0, none⟩) (by dsimp only; omega) (.int .i64 p.pts)
                    have X0 := X0.set 0 (.int .i64 p.pts)
                    have Xr := Lib.hid (Xr.out.far (grown_set (i := 0) (World.grownBy.refl _ (some hX)) (.int .i64 p.pts)) (fun q hq e => Xo (e.trans hq.symm)))
                    have R := Lib.hid (R.out.set (p := ⟨hX, 0, none⟩) (by dsimp only; omega) (by dsimp only; omega) (.int .i64 p.pts))
                    have G := Lib.hid (grown_set' (k := hX) (i := 0) G.out lhX (.int .i64 p.pts))
                    have P0 := P0.far (p := ⟨hX, 1, none⟩) (by dsimp only; omega) (.slice av N cv)
                    have D0 := D0.far (p := ⟨hX, 1, none⟩) (by dsimp only; omega) (.slice av N cv)
                    have X0 := X0.set 1 (.slice av N cv)
                    have Xr := Lib.hid (Xr.out.far (grown_set (i := 1) (World.grownBy.refl _ (some hX)) (.slice av N cv)) (fun q hq e => Xo (e.trans hq.symm)))
                    have R := Lib.hid (R.out.set (p := ⟨hX, 1, none⟩) (by dsimp only; omega) (by dsimp only; omega) (.slice av N cv))
                    have G := Lib.hid (grown_set' (k := hX) (i := 1) G.out lhX (.slice av N cv))
                    have P0 := P0.far (p := ⟨hX, 2, none⟩) (by dsimp only; omega) (.slice aX (l.length + 1) cX)
                    have D0 := D0.far (p := ⟨hX, 2, none⟩) (by dsimp only; omega) (.slice aX (l.length + 1) cX)
                    have X0 := X0.set 2 (.slice aX (l.length + 1) cX)
                    have Xr := Lib.hid (Xr.out.far (grown_set (i := 2) (World.grownBy.refl _ (some hX)) (.slice aX (l.length + 1) cX)) (fun q hq e => Xo (e.trans hq.symm)))
                    have R := Lib.hid (R.out.set (p := ⟨hX, 2, none⟩) (by dsimp only; omega) (by dsimp only; omega) (.slice aX (l.length + 1) cX))
                    have G := Lib.hid (grown_set' (k := hX) (i := 2) G.out lhX (.slice aX (l.length + 1) cX))
                    obtain ⟨x44w, hx44w⟩ : ∃ x, Hid (x = (((x43w.setCell ⟨hX, 0, none⟩ (.int .i64 p.pts)).setCell ⟨hX, 1, none⟩ (.slice av N cv)).setCell ⟨hX, 2, none⟩ (.slice aX (l.length + 1) cX))) := ⟨_, rfl⟩
                    rw [← hx44w.out] at P0 D0 X0 Xr R G ⊢
                    clear rc9 rz9 rl9
                    refine hK.out _ _ ?_ (fun hHeld => ?_)
                    · exact ⟨P0.cell0 rfl, P0.cell0 rfl, D0.cell0 rfl⟩
                    clear hK K'
                    try simp only [Act.put, List.setIfInBounds_toArray, List.set_cons_zero, List.set_cons_succ]
                    refine wpAnyH_done (by kernel_rfl) ?_ _
                    try simp only [Act.put, List.setIfInBounds_toArray, List.set_cons_zero, List.set_cons_succ]
                    go_wp2_with fail
                    go_meet
                    exact ⟨hX, _, _, rfl, X0, lhX, Xr.out.base lhT, by simp, R.out.mono (by omega), G.out⟩
                · skip
                  refine if_yes (by rfl) ?_
                  try simp only [Act.put, List.setIfInBounds_toArray, List.set_cons_zero, List.set_cons_succ]
                  go_simp
                  obtain ⟨x45w, hx45w, X0, sx45w, ex45w⟩ := one_box x19w #[.int .i64 0, .slice none 0 0, .slice none 0 0] 44
                  rw [← hx45w.out]
                  have lhX := G.out.size
                  have P0 := P0.ext ex45w
                  have D0 := D0.ext ex45w
                  have A := Lib.hid (A.out.ext ex45w)
                  have R := Lib.hid (R.out.ext ex45w)
                  have G := Lib.hid (grown_ext' G.out ex45w)
                  have qx45w := (ex45w).size
                  obtain ⟨hX, HhX⟩ : ∃ b, Hid (b = x19w.heap.size) := ⟨_, rfl⟩
                  rw [← HhX.out] at X0 lhX ⊢
                  clear ex45w
                  refine hK.out _ _ ?_ (fun hHeld => ?_)
                  · exact ⟨P0.cell0 rfl, P0.cell0 rfl, D0.cell0 rfl⟩
                  clear hK K'
                  try simp only [Act.put, List.setIfInBounds_toArray, List.set_cons_zero, List.set_cons_succ]
                  refine wpAnyH_ready (rs := [8]) (by kernel_rfl) (by simp) ?_
                  refine AllReadyH.cons rfl (fun K' hK => ?_) AllReadyH.nil
                  refine if_yes (by rfl) ?_
                  try simp only [Act.put, List.setIfInBounds_toArray, List.set_cons_zero, List.set_cons_succ]
                  go_simp
                  refine (spec_pick B g _ p.pts _ R.out (by omega)).mono ?_
                  rintro e x46w ⟨y1, rfl, hy10, hy11, hr, hgw, -⟩
                  have P0 := P0.near hgw (by omega)
                  have D0 := D0.near hgw (by omega)
                  have X0 := X0.near hgw (by omega)
                  have A := Lib.hid (A.out.near hgw (by omega))
                  have G := Lib.hid (grown_trans' G.out hgw)
                  have R := Lib.hid hr
                  have qx46w := hgw.size
                  clear hr hgw
                  go_wp2_with fail
                  refine hK.out _ _ ?_ (fun hHeld => ?_)
                  · exact ⟨P0.cell0 rfl, P0.cell0 rfl, D0.cell0 rfl⟩
                  clear hK K'
                  try simp only [Act.put, List.setIfInBounds_toArray, List.set_cons_zero, List.set_cons_succ]
                  refine wpAnyH_ready (rs := [12]) (by kernel_rfl) (by simp) ?_
                  refine AllReadyH.cons rfl (fun K' hK => ?_) AllReadyH.nil
                  refine if_yes (by rfl) ?_
                  try simp only [Act.put, List.setIfInBounds_toArray, List.set_cons_zero, List.set_cons_succ]
                  go_simp
                  refine (spec_pick B g _ p.pts _ R.out (by omega)).mono ?_
                  rintro e x47w ⟨y2, rfl, hy20, hy21, hr, hgw, -⟩
                  have P0 := P0.near hgw (by omega)
                  have D0 := D0.near hgw (by omega)
                  have X0 := X0.near hgw (by omega)
                  have A := Lib.hid (A.out.near hgw (by omega))
                  have G := Lib.hid (grown_trans' G.out hgw)
                  have R := Lib.hid hr
                  have qx47w := hgw.size
                  clear hr hgw
                  go_wp2_with fail
                  refine hK.out _ _ ?_ (fun hHeld => ?_)
                  · exact ⟨P0.cell0 rfl, P0.cell0 rfl, D0.cell0 rfl⟩
                  clear hK K'
                  try simp only [Act.put, List.setIfInBounds_toArray, List.set_cons_zero, List.set_cons_succ]
                  refine wpAnyH_ready (rs := [16]) (by kernel_rfl) (by simp) ?_
                  refine AllReadyH.cons rfl (fun K' hK => ?_) AllReadyH.nil
                  refine if_yes (by rfl) ?_
                  try simp only [Act.put, List.setIfInBounds_toArray, List.set_cons_zero, List.set_cons_succ]
                  go_simp
                  refine (spec_pick B g _ 6 _ R.out (by omega)).mono ?_
                  rintro e x48w ⟨y3, rfl, hy30, hy31, hr, hgw, -⟩
                  have P0 := P0.near hgw (by omega)
                  have D0 := D0.near hgw (by omega)
                  have X0 := X0.near hgw (by omega)
                  have A := Lib.hid (A.out.near hgw (by omega))
                  have G := Lib.hid (grown_trans' G.out hgw)
                  have R := Lib.hid hr
                  have qx48w := hgw.size
                  clear hr hgw
                  go_wp2_with fail
                  have hwy : IntKind.i64.wrap (x51 + y3) = x51 + y3 := IntWalk.i64_in _ (by omega)
                  refine hK.out _ _ ?_ (fun hHeld => ?_)
                  · exact ⟨P0.cell0 rfl, P0.cell0 rfl, D0.cell0 rfl⟩
                  clear hK K'
                  try simp only [Act.put, List.setIfInBounds_toArray, List.set_cons_zero, List.set_cons_succ]
                  refine wpAnyH_take (i := 17) (v := ?_) rfl (by kernel_rfl) (by kernel_rfl) (by kernel_rfl) (fun _ _ _ h => h) (Or.inl ⟨by rfl, fun w' hS' => ?_⟩) (by assumption) ?_
                  rotate_left
                  · (try dsimp only at hS'); go_simp; (try rw [if_pos (by omega)]); try with_reducible rfl
                  try simp only [Act.put, List.getElem_toArray, List.getElem_cons_zero, List.getElem_cons_succ, List.setIfInBounds_toArray, List.set_cons_zero, List.set_cons_succ]
                  refine wpAnyH_take (i := 18) (v := ?_) rfl (by kernel_rfl) (by kernel_rfl) (by kernel_rfl) (fun _ _ _ h => h) (Or.inl ⟨by rfl, fun w' hS' => ?_⟩) (by assumption) ?_
                  rotate_left
                  · (try dsimp only at hS'); go_simp; (try rw [if_pos (by omega)]); try with_reducible rfl
                  try simp only [Act.put, List.getElem_toArray, List.getElem_cons_zero, List.getElem_cons_succ, List.setIfInBounds_toArray, List.set_cons_zero, List.set_cons_succ]
                  refine wpAnyH_ready (rs := [19]) (by kernel_rfl) (by simp) ?_
                  refine AllReadyH.cons rfl (fun K' hK => ?_) AllReadyH.nil
                  refine if_yes (by rfl) ?_
                  try simp only [Act.put, List.setIfInBounds_toArray, List.set_cons_zero, List.set_cons_succ]
                  go_simp
                  obtain ⟨x49w, hx49w, L0, sx49w, ex49w⟩ := one_box x48w #[.int .i64 y1, .int .i64 y2, .int .i64 x51, .int .i64 (x51 + y3)] 50
                  rw [← hx49w.out]
                  have lhL := G.out.size
                  have P0 := P0.ext ex49w
                  have D0 := D0.ext ex49w
                  have X0 := X0.ext ex49w
                  have A := Lib.hid (A.out.ext ex49w)
                  have R := Lib.hid (R.out.ext ex49w)
                  have G := Lib.hid (grown_ext' G.out ex49w)
                  have qx49w := (ex49w).size
                  obtain ⟨hL, HhL⟩ : ∃ b, Hid (b = x48w.heap.size) := ⟨_, rfl⟩
                  rw [← HhL.out] at L0 lhL ⊢
                  clear ex49w
                  refine hK.out _ _ ?_ (fun hHeld => ?_)
                  · exact ⟨P0.cell0 rfl, P0.cell0 rfl, D0.cell0 rfl⟩
                  clear hK K'
                  try simp only [Act.put, List.setIfInBounds_toArray, List.set_cons_zero, List.set_cons_succ]
                  refine wpAnyH_ready (rs := [20]) (by kernel_rfl) (by simp) ?_
                  refine AllReadyH.cons rfl (fun K' hK => ?_) AllReadyH.nil
                  refine if_yes (by rfl) ?_
                  try simp only [Act.put, List.setIfInBounds_toArray, List.set_cons_zero, List.set_cons_succ]
                  refine wp_appPr _ (.tmp 65) (.tmp 80) rfl hT 0 (.slice aA l.length cA) l rfl A.out (.slice (some ⟨hL, 0, none⟩) 1 1) [⟨y1, y2, x51, x51 + y3⟩] rfl (Prs.ofBox1 (b := ⟨y1, y2, x51, x51 + y3⟩) L0 (Nat.zero_le _)) (by simp; omega) (by have := HhT.out; omega) ?_
                  intro v' x50w hv' hg'
                  obtain ⟨aX, cX, hve, -⟩ := hv'.open
                  rw [List.length_append, List.length_singleton] at hve
                  subst hve
                  have P0 := P0.grown hg' (own_off A.out P0 (by decide))
                  have D0 := D0.grown hg' (own_off A.out D0 (by decide))
                  have X0 := X0.grown hg' (own_off A.out X0 (by decide))
                  have R := Lib.hid (R.out.grown hg' (fun e => by have := (A.out).lt _ e.symm; omega) (fun k hk => by have := (A.out).lt k hk; omega))
                  have G := Lib.hid (grown_high G.out hg' (fun k hk => by have := (A.out).lt k hk; omega))
                  have qx50w := hg'.size
                  have Xr := Lib.hid hv'
                  clear hv' hg' A L0
                  refine hK.out _ _ ?_ (fun hHeld => ?_)
                  · exact ⟨P0.cell0 rfl, P0.cell0 rfl, D0.cell0 rfl⟩
                  clear hK K'
                  try simp only [Act.put, List.setIfInBounds_toArray, List.set_cons_zero, List.set_cons_succ]
                  refine wpAnyH_take (i := 21) (v := ?_) rfl (by kernel_rfl) (by kernel_rfl) (by kernel_rfl) (fun _ _ _ h => h) (Or.inl ⟨by rfl, fun w' hS' => ?_⟩) (by assumption) ?_
                  rotate_left
                  · (try dsimp only at hS'); go_simp; (try rw [if_pos (by omega)]); try with_reducible rfl
                  try simp only [Act.put, List.getElem_toArray, List.getElem_cons_zero, List.getElem_cons_succ, List.setIfInBounds_toArray, List.set_cons_zero, List.set_cons_succ]
                  obtain ⟨rc9, rz9⟩ := (X0).rules; have rl9 := (X0).lt
                  refine wpAnyH_ready (rs := [23]) (by kernel_rfl) (by simp) ?_
                  refine AllReadyH.cons rfl (fun K' hK => ?_) AllReadyH.nil
                  refine if_yes (by rfl) ?_
                  try simp only [Act.put, List.setIfInBounds_toArray, List.set_cons_zero, List.set_cons_succ]
                  go_simp
                  have Xo := own_off Xr.out X0 (by decide)
                  have P0 := P0.far (p := ⟨hX, 0, none⟩) (by dsimp only; omega) (.int .i64 p.pts)
                  have D0 := D0.far (p := ⟨hX, 0, none⟩) (by dsimp only; omega) (.int .i64 p.pts)
                  have X0 := X0.set 0 (.int .i64 p.pts)
                  have Xr := Lib.hid (Xr.out.far (grown_set (i := 0) (World.grownBy.refl _ (some hX)) (.int .i64 p.pts)) (fun q hq e => Xo (e.trans hq.symm)))
                  have R := Lib.hid (R.out.set (p := ⟨hX, 0, none⟩) (by dsimp only; omega) (by dsimp only; omega) (.int .i64 p.pts))
                  have G := Lib.hid (grown_set' (k := hX) (i := 0) G.out lhX (.int .i64 p.pts))
                  have P0 := P0.far (p := ⟨hX, 1, none⟩) (by dsimp only; omega) (.slice av N cv)
                  have D0 := D0.far (p := ⟨hX, 1, none⟩) (by dsimp only; omega) (.slice av N cv)
                  have X0 := X0.set 1 (.slice av N cv)
                  have Xr := Lib.hid (Xr.out.far (grown_set (i := 1) (World.grownBy.refl _ (some hX)) (.slice av N cv)) (fun q hq e => Xo (e.trans hq.symm)))
                  have R := Lib.hid (R.out.set (p := ⟨hX, 1, none⟩) (by dsimp only; omega) (by dsimp only; omega) (.slice av N cv))
                  have G := Lib.hid (grown_set' (k := hX) (i := 1) G.out lhX (.slice av N cv))
                  have P0 := P0.far (p := ⟨hX, 2, none⟩) (by dsimp only; omega) (.slice aX (l.length + 1) cX)
                  have D0 := D0.far (p := ⟨hX, 2, none⟩) (by dsimp only; omega) (.slice aX (l.length + 1) cX)
                  have X0 := X0.set 2 (.slice aX (l.length + 1) cX)
                  have Xr := Lib.hid (Xr.out.far (grown_set (i := 2) (World.grownBy.refl _ (some hX)) (.slice aX (l.length + 1) cX)) (fun q hq e => Xo (e.trans hq.symm)))
                  have R := Lib.hid (R.out.set (p := ⟨hX, 2, none⟩) (by dsimp only; omega) (by dsimp only; omega) (.slice aX (l.length + 1) cX))
                  have G := Lib.hid (grown_set' (k := hX) (i := 2) G.out lhX (.slice aX (l.length + 1) cX))
                  obtain ⟨x51w, hx51w⟩ : ∃ x, Hid (x = (((x50w.setCell ⟨hX, 0, none⟩ (.int .i64 p.pts)).setCell ⟨hX, 1, none⟩ (.slice av N cv)).setCell ⟨hX, 2, none⟩ (.slice aX (l.length + 1) cX))) := ⟨_, rfl⟩
                  rw [← hx51w.out] at P0 D0 X0 Xr R G ⊢
                  clear rc9 rz9 rl9
                  refine hK.out _ _ ?_ (fun hHeld => ?_)
                  · exact ⟨P0.cell0 rfl, P0.cell0 rfl, D0.cell0 rfl⟩
                  clear hK K'
                  try simp only [Act.put, List.setIfInBounds_toArray, List.set_cons_zero, List.set_cons_succ]
                  refine wpAnyH_done (by kernel_rfl) ?_ _
                  try simp only [Act.put, List.setIfInBounds_toArray, List.set_cons_zero, List.set_cons_succ]
                  go_wp2_with fail
                  go_meet
                  exact ⟨hX, _, _, rfl, X0, lhX, Xr.out.base lhT, by simp, R.out.mono (by omega), G.out⟩
              · skip
                refine if_yes (by rfl) ?_
                try simp only [Act.put, List.setIfInBounds_toArray, List.set_cons_zero, List.set_cons_succ]
                go_simp
                obtain ⟨x52w, hx52w, X0, sx52w, ex52w⟩ := one_box x18w #[.int .i64 0, .slice none 0 0, .slice none 0 0] 44
                rw [← hx52w.out]
                have lhX := G.out.size
                have P0 := P0.ext ex52w
                have D0 := D0.ext ex52w
                have T0 := T0.ext ex52w
                have Nr := Lib.hid (Nr.out.ext ex52w)
                have R := Lib.hid (R.out.ext ex52w)
                have G := Lib.hid (grown_ext' G.out ex52w)
                have qx52w := (ex52w).size
                obtain ⟨hX, HhX⟩ : ∃ b, Hid (b = x18w.heap.size) := ⟨_, rfl⟩
                rw [← HhX.out] at X0 lhX ⊢
                clear ex52w
                refine hK.out _ _ ?_ (fun hHeld => ?_)
                · exact ⟨P0.cell0 rfl, P0.cell0 rfl, D0.cell0 rfl⟩
                clear hK K'
                try simp only [Act.put, List.setIfInBounds_toArray, List.set_cons_zero, List.set_cons_succ]
                refine wpAnyH_ready (rs := [4]) (by kernel_rfl) (by simp) ?_
                refine AllReadyH.cons rfl (fun K' hK => ?_) AllReadyH.nil
                refine if_yes (by rfl) ?_
                try simp only [Act.put, List.setIfInBounds_toArray, List.set_cons_zero, List.set_cons_succ]
                refine wp_appPr _ (.tmp 62) (.tmp 64) rfl hT 0 (.slice (some ⟨hT, 0, none⟩) 0 0) [] rfl (Prs.ofBox T0 (Nat.le_refl _)) (.slice ap l.length cp) l rfl (Nr.out.base (Nat.zero_le _)) (by simp; omega) (by have := HhT.out; omega) ?_
                intro v' x53w hv' hg'
                simp only [List.nil_append] at hv'
                obtain ⟨aA, cA, rfl, -⟩ := hv'.open
                have T0r := Prs.ofBox T0 (Nat.le_refl _)
                have P0 := P0.grown hg' (own_off T0r P0 (by decide))
                have D0 := D0.grown hg' (own_off T0r D0 (by decide))
                have X0 := X0.grown hg' (own_off T0r X0 (by decide))
                have R := Lib.hid (R.out.grown hg' (fun e => by have := (T0r).lt _ e.symm; omega) (fun k hk => by have := (T0r).lt k hk; omega))
                have G := Lib.hid (grown_high G.out hg' (fun k hk => by have := (T0r).lt k hk; omega))
                have qx53w := hg'.size
                have A := Lib.hid hv'
                clear hv' hg' T0r T0
                refine hK.out _ _ ?_ (fun hHeld => ?_)
                · exact ⟨P0.cell0 rfl, P0.cell0 rfl, D0.cell0 rfl⟩
                clear hK K'
                try simp only [Act.put, List.setIfInBounds_toArray, List.set_cons_zero, List.set_cons_succ]
                refine wpAnyH_ready (rs := [8]) (by kernel_rfl) (by simp) ?_
                refine AllReadyH.cons rfl (fun K' hK => ?_) AllReadyH.nil
                refine if_yes (by rfl) ?_
                try simp only [Act.put, List.setIfInBounds_toArray, List.set_cons_zero, List.set_cons_succ]
                go_simp
                refine (spec_pick B g _ p.pts _ R.out (by omega)).mono ?_
                rintro e x54w ⟨y1, rfl, hy10, hy11, hr, hgw, -⟩
                have P0 := P0.near hgw (by omega)
                have D0 := D0.near hgw (by omega)
                have X0 := X0.near hgw (by omega)
                have A := Lib.hid (A.out.near hgw (by omega))
                have G := Lib.hid (grown_trans' G.out hgw)
                have R := Lib.hid hr
                have qx54w := hgw.size
                clear hr hgw
                go_wp2_with fail
                refine hK.out _ _ ?_ (fun hHeld => ?_)
                · exact ⟨P0.cell0 rfl, P0.cell0 rfl, D0.cell0 rfl⟩
                clear hK K'
                try simp only [Act.put, List.setIfInBounds_toArray, List.set_cons_zero, List.set_cons_succ]
                refine wpAnyH_ready (rs := [12]) (by kernel_rfl) (by simp) ?_
                refine AllReadyH.cons rfl (fun K' hK => ?_) AllReadyH.nil
                refine if_yes (by rfl) ?_
                try simp only [Act.put, List.setIfInBounds_toArray, List.set_cons_zero, List.set_cons_succ]
                go_simp
                refine (spec_pick B g _ p.pts _ R.out (by omega)).mono ?_
                rintro e x55w ⟨y2, rfl, hy20, hy21, hr, hgw, -⟩
                have P0 := P0.near hgw (by omega)
                have D0 := D0.near hgw (by omega)
                have X0 := X0.near hgw (by omega)
                have A := Lib.hid (A.out.near hgw (by omega))
                have G := Lib.hid (grown_trans' G.out hgw)
                have R := Lib.hid hr
                have qx55w := hgw.size
                clear hr hgw
                go_wp2_with fail
                refine hK.out _ _ ?_ (fun hHeld => ?_)
                · exact ⟨P0.cell0 rfl, P0.cell0 rfl, D0.cell0 rfl⟩
                clear hK K'
                try simp only [Act.put, List.setIfInBounds_toArray, List.set_cons_zero, List.set_cons_succ]
                refine wpAnyH_ready (rs := [16]) (by kernel_rfl) (by simp) ?_
                refine AllReadyH.cons rfl (fun K' hK => ?_) AllReadyH.nil
                refine if_yes (by rfl) ?_
                try simp only [Act.put, List.setIfInBounds_toArray, List.set_cons_zero, List.set_cons_succ]
                go_simp
                refine (spec_pick B g _ 6 _ R.out (by omega)).mono ?_
                rintro e x56w ⟨y3, rfl, hy30, hy31, hr, hgw, -⟩
                have P0 := P0.near hgw (by omega)
                have D0 := D0.near hgw (by omega)
                have X0 := X0.near hgw (by omega)
                have A := Lib.hid (A.out.near hgw (by omega))
                have G := Lib.hid (grown_trans' G.out hgw)
                have R := Lib.hid hr
                have qx56w := hgw.size
                clear hr hgw
                go_wp2_with fail
                have hwy : IntKind.i64.wrap (x51 + y3) = x51 + y3 := IntWalk.i64_in _ (by omega)
                refine hK.out _ _ ?_ (fun hHeld => ?_)
                · exact ⟨P0.cell0 rfl, P0.cell0 rfl, D0.cell0 rfl⟩
                clear hK K'
                try simp only [Act.put, List.setIfInBounds_toArray, List.set_cons_zero, List.set_cons_succ]
                refine wpAnyH_take (i := 17) (v := ?_) rfl (by kernel_rfl) (by kernel_rfl) (by kernel_rfl) (fun _ _ _ h => h) (Or.inl ⟨by rfl, fun w' hS' => ?_⟩) (by assumption) ?_
                rotate_left
                · (try dsimp only at hS'); go_simp; (try rw [if_pos (by omega)]); try with_reducible rfl
                try simp only [Act.put, List.getElem_toArray, List.getElem_cons_zero, List.getElem_cons_succ, List.setIfInBounds_toArray, List.set_cons_zero, List.set_cons_succ]
                refine wpAnyH_take (i := 18) (v := ?_) rfl (by kernel_rfl) (by kernel_rfl) (by kernel_rfl) (fun _ _ _ h => h) (Or.inl ⟨by rfl, fun w' hS' => ?_⟩) (by assumption) ?_
                rotate_left
                · (try dsimp only at hS'); go_simp; (try rw [if_pos (by omega)]); try with_reducible rfl
                try simp only [Act.put, List.getElem_toArray, List.getElem_cons_zero, List.getElem_cons_succ, List.setIfInBounds_toArray, List.set_cons_zero, List.set_cons_succ]
                refine wpAnyH_ready (rs := [19]) (by kernel_rfl) (by simp) ?_
                refine AllReadyH.cons rfl (fun K' hK => ?_) AllReadyH.nil
                refine if_yes (by rfl) ?_
                try simp only [Act.put, List.setIfInBounds_toArray, List.set_cons_zero, List.set_cons_succ]
                go_simp
                obtain ⟨x57w, hx57w, L0, sx57w, ex57w⟩ := one_box x56w #[.int .i64 y1, .int .i64 y2, .int .i64 x51, .int .i64 (x51 + y3)] 50
                rw [← hx57w.out]
                have lhL := G.out.size
                have P0 := P0.ext ex57w
                have D0 := D0.ext ex57w
                have X0 := X0.ext ex57w
                have A := Lib.hid (A.out.ext ex57w)
                have R := Lib.hid (R.out.ext ex57w)
                have G := Lib.hid (grown_ext' G.out ex57w)
                have qx57w := (ex57w).size
                obtain ⟨hL, HhL⟩ : ∃ b, Hid (b = x56w.heap.size) := ⟨_, rfl⟩
                rw [← HhL.out] at L0 lhL ⊢
                clear ex57w
                refine hK.out _ _ ?_ (fun hHeld => ?_)
                · exact ⟨P0.cell0 rfl, P0.cell0 rfl, D0.cell0 rfl⟩
                clear hK K'
                try simp only [Act.put, List.setIfInBounds_toArray, List.set_cons_zero, List.set_cons_succ]
                refine wpAnyH_ready (rs := [20]) (by kernel_rfl) (by simp) ?_
                refine AllReadyH.cons rfl (fun K' hK => ?_) AllReadyH.nil
                refine if_yes (by rfl) ?_
                try simp only [Act.put, List.setIfInBounds_toArray, List.set_cons_zero, List.set_cons_succ]
                refine wp_appPr _ (.tmp 65) (.tmp 80) rfl hT 0 (.slice aA l.length cA) l rfl A.out (.slice (some ⟨hL, 0, none⟩) 1 1) [⟨y1, y2, x51, x51 + y3⟩] rfl (Prs.ofBox1 (b := ⟨y1, y2, x51, x51 + y3⟩) L0 (Nat.zero_le _)) (by simp; omega) (by have := HhT.out; omega) ?_
                intro v' x58w hv' hg'
                obtain ⟨aX, cX, hve, -⟩ := hv'.open
                rw [List.length_append, List.length_singleton] at hve
                subst hve
                have P0 := P0.grown hg' (own_off A.out P0 (by decide))
                have D0 := D0.grown hg' (own_off A.out D0 (by decide))
                have X0 := X0.grown hg' (own_off A.out X0 (by decide))
                have R := Lib.hid (R.out.grown hg' (fun e => by have := (A.out).lt _ e.symm; omega) (fun k hk => by have := (A.out).lt k hk; omega))
                have G := Lib.hid (grown_high G.out hg' (fun k hk => by have := (A.out).lt k hk; omega))
                have qx58w := hg'.size
                have Xr := Lib.hid hv'
                clear hv' hg' A L0
                refine hK.out _ _ ?_ (fun hHeld => ?_)
                · exact ⟨P0.cell0 rfl, P0.cell0 rfl, D0.cell0 rfl⟩
                clear hK K'
                try simp only [Act.put, List.setIfInBounds_toArray, List.set_cons_zero, List.set_cons_succ]
                refine wpAnyH_take (i := 21) (v := ?_) rfl (by kernel_rfl) (by kernel_rfl) (by kernel_rfl) (fun _ _ _ h => h) (Or.inl ⟨by rfl, fun w' hS' => ?_⟩) (by assumption) ?_
                rotate_left
                · (try dsimp only at hS'); go_simp; (try rw [if_pos (by omega)]); try with_reducible rfl
                try simp only [Act.put, List.getElem_toArray, List.getElem_cons_zero, List.getElem_cons_succ, List.setIfInBounds_toArray, List.set_cons_zero, List.set_cons_succ]
                obtain ⟨rc9, rz9⟩ := (X0).rules; have rl9 := (X0).lt
                refine wpAnyH_ready (rs := [23]) (by kernel_rfl) (by simp) ?_
                refine AllReadyH.cons rfl (fun K' hK => ?_) AllReadyH.nil
                refine if_yes (by rfl) ?_
                try simp only [Act.put, List.setIfInBounds_toArray, List.set_cons_zero, List.set_cons_succ]
                go_simp
                have Xo := own_off Xr.out X0 (by decide)
                have P0 := P0.far (p := ⟨hX, 0, none⟩) (by dsimp only; omega) (.int .i64 p.pts)
                have D0 := D0.far (p := ⟨hX, 0, none⟩) (by dsimp only; omega) (.int .i64 p.pts)
                have X0 := X0.set 0 (.int .i64 p.pts)
                have Xr := Lib.hid (Xr.out.far (grown_set (i := 0) (World.grownBy.refl _ (some hX)) (.int .i64 p.pts)) (fun q hq e => Xo (e.trans hq.symm)))
                have R := Lib.hid (R.out.set (p := ⟨hX, 0, none⟩) (by dsimp only; omega) (by dsimp only; omega) (.int .i64 p.pts))
                have G := Lib.hid (grown_set' (k := hX) (i := 0) G.out lhX (.int .i64 p.pts))
                have P0 := P0.far (p := ⟨hX, 1, none⟩) (by dsimp only; omega) (.slice av N cv)
                have D0 := D0.far (p := ⟨hX, 1, none⟩) (by dsimp only; omega) (.slice av N cv)
                have X0 := X0.set 1 (.slice av N cv)
                have Xr := Lib.hid (Xr.out.far (grown_set (i := 1) (World.grownBy.refl _ (some hX)) (.slice av N cv)) (fun q hq e => Xo (e.trans hq.symm)))
                have R := Lib.hid (R.out.set (p := ⟨hX, 1, none⟩) (by dsimp only; omega) (by dsimp only; omega) (.slice av N cv))
                have G := Lib.hid (grown_set' (k := hX) (i := 1) G.out lhX (.slice av N cv))
                have P0 := P0.far (p := ⟨hX, 2, none⟩) (by dsimp only; omega) (.slice aX (l.length + 1) cX)
                have D0 := D0.far (p := ⟨hX, 2, none⟩) (by dsimp only; omega) (.slice aX (l.length + 1) cX)
                have X0 := X0.set 2 (.slice aX (l.length + 1) cX)
                have Xr := Lib.hid (Xr.out.far (grown_set (i := 2) (World.grownBy.refl _ (some hX)) (.slice aX (l.length + 1) cX)) (fun q hq e => Xo (e.trans hq.symm)))
                have R := Lib.hid (R.out.set (p := ⟨hX, 2, none⟩) (by dsimp only; omega) (by dsimp only; omega) (.slice aX (l.length + 1) cX))
                have G := Lib.hid (grown_set' (k := hX) (i := 2) G.out lhX (.slice aX (l.length + 1) cX))
                obtain ⟨x59w, hx59w⟩ : ∃ x, Hid (x = (((x58w.setCell ⟨hX, 0, none⟩ (.int .i64 p.pts)).setCell ⟨hX, 1, none⟩ (.slice av N cv)).setCell ⟨hX, 2, none⟩ (.slice aX (l.length + 1) cX))) := ⟨_, rfl⟩
                rw [← hx59w.out] at P0 D0 X0 Xr R G ⊢
                clear rc9 rz9 rl9
                refine hK.out _ _ ?_ (fun hHeld => ?_)
                · exact ⟨P0.cell0 rfl, P0.cell0 rfl, D0.cell0 rfl⟩
                clear hK K'
                try simp only [Act.put, List.setIfInBounds_toArray, List.set_cons_zero, List.set_cons_succ]
                refine wpAnyH_done (by kernel_rfl) ?_ _
                try simp only [Act.put, List.setIfInBounds_toArray, List.set_cons_zero, List.set_cons_succ]
                go_wp2_with fail
                go_meet
                exact ⟨hX, _, _, rfl, X0, lhX, Xr.out.base lhT, by simp, R.out.mono (by omega), G.out⟩
            · skip
              refine if_yes (by rfl) ?_
              try simp only [Act.put, List.setIfInBounds_toArray, List.set_cons_zero, List.set_cons_succ]
              go_simp
              obtain ⟨x60w, hx60w, X0, sx60w, ex60w⟩ := one_box D #[.int .i64 0, .slice none 0 0, .slice none 0 0] 44
              rw [← hx60w.out]
              have lhX := G.out.size
              have P0 := P0.ext ex60w
              have D0 := D0.ext ex60w
              have Nr := Lib.hid (Nr.out.ext ex60w)
              have R := Lib.hid (R.out.ext ex60w)
              have G := Lib.hid (grown_ext' G.out ex60w)
              have qx60w := (ex60w).size
              obtain ⟨hX, HhX⟩ : ∃ b, Hid (b = D.heap.size) := ⟨_, rfl⟩
              rw [← HhX.out] at X0 lhX ⊢
              clear ex60w
              refine hK.out _ _ ?_ (fun hHeld => ?_)
              · exact ⟨P0.cell0 rfl, P0.cell0 rfl, D0.cell0 rfl⟩
              clear hK K'
              try simp only [Act.put, List.setIfInBounds_toArray, List.set_cons_zero, List.set_cons_succ]
              refine wpAnyH_ready (rs := [1]) (by kernel_rfl) (by simp) ?_
              refine AllReadyH.cons rfl (fun K' hK => ?_) AllReadyH.nil
              refine if_yes (by rfl) ?_
              try simp only [Act.put, List.setIfInBounds_toArray, List.set_cons_zero, List.set_cons_succ]
              go_simp
              obtain ⟨x61w, hx61w, T0, sx61w, ex61w⟩ := one_box x60w #[] 50
              rw [← hx61w.out]
              have lhT := G.out.size
              have P0 := P0.ext ex61w
              have D0 := D0.ext ex61w
              have X0 := X0.ext ex61w
              have Nr := Lib.hid (Nr.out.ext ex61w)
              have R := Lib.hid (R.out.ext ex61w)
              have G := Lib.hid (grown_ext' G.out ex61w)
              have qx61w := (ex61w).size
              obtain ⟨hT, HhT⟩ : ∃ b, Hid (b = x60w.heap.size) := ⟨_, rfl⟩
              rw [← HhT.out] at T0 lhT ⊢
              clear ex61w
              refine hK.out _ _ ?_ (fun hHeld => ?_)
              · exact ⟨P0.cell0 rfl, P0.cell0 rfl, D0.cell0 rfl⟩
              clear hK K'
              try simp only [Act.put, List.setIfInBounds_toArray, List.set_cons_zero, List.set_cons_succ]
              refine wpAnyH_ready (rs := [4]) (by kernel_rfl) (by simp) ?_
              refine AllReadyH.cons rfl (fun K' hK => ?_) AllReadyH.nil
              refine if_yes (by rfl) ?_
              try simp only [Act.put, List.setIfInBounds_toArray, List.set_cons_zero, List.set_cons_succ]
              refine wp_appPr _ (.tmp 62) (.tmp 64) rfl hT 0 (.slice (some ⟨hT, 0, none⟩) 0 0) [] rfl (Prs.ofBox T0 (Nat.le_refl _)) (.slice ap l.length cp) l rfl (Nr.out.base (Nat.zero_le _)) (by simp; omega) (by have := HhT.out; omega) ?_
              intro v' x62w hv' hg'
              simp only [List.nil_append] at hv'
              obtain ⟨aA, cA, rfl, -⟩ := hv'.open
              have T0r := Prs.ofBox T0 (Nat.le_refl _)
              have P0 := P0.grown hg' (own_off T0r P0 (by decide))
              have D0 := D0.grown hg' (own_off T0r D0 (by decide))
              have X0 := X0.grown hg' (own_off T0r X0 (by decide))
              have R := Lib.hid (R.out.grown hg' (fun e => by have := (T0r).lt _ e.symm; omega) (fun k hk => by have := (T0r).lt k hk; omega))
              have G := Lib.hid (grown_high G.out hg' (fun k hk => by have := (T0r).lt k hk; omega))
              have qx62w := hg'.size
              have A := Lib.hid hv'
              clear hv' hg' T0r T0
              refine hK.out _ _ ?_ (fun hHeld => ?_)
              · exact ⟨P0.cell0 rfl, P0.cell0 rfl, D0.cell0 rfl⟩
              clear hK K'
              try simp only [Act.put, List.setIfInBounds_toArray, List.set_cons_zero, List.set_cons_succ]
              refine wpAnyH_ready (rs := [8]) (by kernel_rfl) (by simp) ?_
              refine AllReadyH.cons rfl (fun K' hK => ?_) AllReadyH.nil
              refine if_yes (by rfl) ?_
              try simp only [Act.put, List.setIfInBounds_toArray, List.set_cons_zero, List.set_cons_succ]
              go_simp
              refine (spec_pick B g _ p.pts _ R.out (by omega)).mono ?_
              rintro e x63w ⟨y1, rfl, hy10, hy11, hr, hgw, -⟩
              have P0 := P0.near hgw (by omega)
              have D0 := D0.near hgw (by omega)
              have X0 := X0.near hgw (by omega)
              have A := Lib.hid (A.out.near hgw (by omega))
              have G := Lib.hid (grown_trans' G.out hgw)
              have R := Lib.hid hr
              have qx63w := hgw.size
              clear hr hgw
              go_wp2_with fail
              refine hK.out _ _ ?_ (fun hHeld => ?_)
              · exact ⟨P0.cell0 rfl, P0.cell0 rfl, D0.cell0 rfl⟩
              clear hK K'
              try simp only [Act.put, List.setIfInBounds_toArray, List.set_cons_zero, List.set_cons_succ]
              refine wpAnyH_ready (rs := [12]) (by kernel_rfl) (by simp) ?_
              refine AllReadyH.cons rfl (fun K' hK => ?_) AllReadyH.nil
              refine if_yes (by rfl) ?_
              try simp only [Act.put, List.setIfInBounds_toArray, List.set_cons_zero, List.set_cons_succ]
              go_simp
              refine (spec_pick B g _ p.pts _ R.out (by omega)).mono ?_
              rintro e x64w ⟨y2, rfl, hy20, hy21, hr, hgw, -⟩
              have P0 := P0.near hgw (by omega)
              have D0 := D0.near hgw (by omega)
              have X0 := X0.near hgw (by omega)
              have A := Lib.hid (A.out.near hgw (by omega))
              have G := Lib.hid (grown_trans' G.out hgw)
              have R := Lib.hid hr
              have qx64w := hgw.size
              clear hr hgw
              go_wp2_with fail
              refine hK.out _ _ ?_ (fun hHeld => ?_)
              · exact ⟨P0.cell0 rfl, P0.cell0 rfl, D0.cell0 rfl⟩
              clear hK K'
              try simp only [Act.put, List.setIfInBounds_toArray, List.set_cons_zero, List.set_cons_succ]
              refine wpAnyH_ready (rs := [16]) (by kernel_rfl) (by simp) ?_
              refine AllReadyH.cons rfl (fun K' hK => ?_) AllReadyH.nil
              refine if_yes (by rfl) ?_
              try simp only [Act.put, List.setIfInBounds_toArray, List.set_cons_zero, List.set_cons_succ]
              go_simp
              refine (spec_pick B g _ 6 _ R.out (by omega)).mono ?_
              rintro e x65w ⟨y3, rfl, hy30, hy31, hr, hgw, -⟩
              have P0 := P0.near hgw (by omega)
              have D0 := D0.near hgw (by omega)
              have X0 := X0.near hgw (by omega)
              have A := Lib.hid (A.out.near hgw (by omega))
              have G := Lib.hid (grown_trans' G.out hgw)
              have R := Lib.hid hr
              have qx65w := hgw.size
              clear hr hgw
              go_wp2_with fail
              have hwy : IntKind.i64.wrap (x51 + y3) = x51 + y3 := IntWalk.i64_in _ (by omega)
              refine hK.out _ _ ?_ (fun hHeld => ?_)
              · exact ⟨P0.cell0 rfl, P0.cell0 rfl, D0.cell0 rfl⟩
              clear hK K'
              try simp only [Act.put, List.setIfInBounds_toArray, List.set_cons_zero, List.set_cons_succ]
              refine wpAnyH_take (i := 17) (v := ?_) rfl (by kernel_rfl) (by kernel_rfl) (by kernel_rfl) (fun _ _ _ h => h) (Or.inl ⟨by rfl, fun w' hS' => ?_⟩) (by assumption) ?_
              rotate_left
              · (try dsimp only at hS'); go_simp; (try rw [if_pos (by omega)]); try with_reducible rfl
              try simp only [Act.put, List.getElem_toArray, List.getElem_cons_zero, List.getElem_cons_succ, List.setIfInBounds_toArray, List.set_cons_zero, List.set_cons_succ]
              refine wpAnyH_take (i := 18) (v := ?_) rfl (by kernel_rfl) (by kernel_rfl) (by kernel_rfl) (fun _ _ _ h => h) (Or.inl ⟨by rfl, fun w' hS' => ?_⟩) (by assumption) ?_
              rotate_left
              · (try dsimp only at hS'); go_simp; (try rw [if_pos (by omega)]); try with_reducible rfl
              try simp only [Act.put, List.getElem_toArray, List.getElem_cons_zero, List.getElem_cons_succ, List.setIfInBounds_toArray, List.set_cons_zero, List.set_cons_succ]
              refine wpAnyH_ready (rs := [19]) (by kernel_rfl) (by simp) ?_
              refine AllReadyH.cons rfl (fun K' hK => ?_) AllReadyH.nil
              refine if_yes (by rfl) ?_
              try simp only [Act.put, List.setIfInBounds_toArray, List.set_cons_zero, List.set_cons_succ]
              go_simp
              obtain ⟨x66w, hx66w, L0, sx66w, ex66w⟩ := one_box x65w #[.int .i64 y1, .int .i64 y2, .int .i64 x51, .int .i64 (x51 + y3)] 50
              rw [← hx66w.out]
              have lhL := G.out.size
              have P0 := P0.ext ex66w
              have D0 := D0.ext ex66w
              have X0 := X0.ext ex66w
              have A := Lib.hid (A.out.ext ex66w)
              have R := Lib.hid (R.out.ext ex66w)
              have G := Lib.hid (grown_ext' G.out ex66w)
              have qx66w := (ex66w).size
              obtain ⟨hL, HhL⟩ : ∃ b, Hid (b = x65w.heap.size) := ⟨_, rfl⟩
              rw [← HhL.out] at L0 lhL ⊢
              clear ex66w
              refine hK.out _ _ ?_ (fun hHeld => ?_)
              · exact ⟨P0.cell0 rfl, P0.cell0 rfl, D0.cell0 rfl⟩
              clear hK K'
              try simp only [Act.put, List.setIfInBounds_toArray, List.set_cons_zero, List.set_cons_succ]
              refine wpAnyH_ready (rs := [20]) (by kernel_rfl) (by simp) ?_
              refine AllReadyH.cons rfl (fun K' hK => ?_) AllReadyH.nil
              refine if_yes (by rfl) ?_
              try simp only [Act.put, List.setIfInBounds_toArray, List.set_cons_zero, List.set_cons_succ]
              refine wp_appPr _ (.tmp 65) (.tmp 80) rfl hT 0 (.slice aA l.length cA) l rfl A.out (.slice (some ⟨hL, 0, none⟩) 1 1) [⟨y1, y2, x51, x51 + y3⟩] rfl (Prs.ofBox1 (b := ⟨y1, y2, x51, x51 + y3⟩) L0 (Nat.zero_le _)) (by simp; omega) (by have := HhT.out; omega) ?_
              intro v' x67w hv' hg'
              obtain ⟨aX, cX, hve, -⟩ := hv'.open
              rw [List.length_append, List.length_singleton] at hve
              subst hve
              have P0 := P0.grown hg' (own_off A.out P0 (by decide))
              have D0 := D0.grown hg' (own_off A.out D0 (by decide))
              have X0 := X0.grown hg' (own_off A.out X0 (by decide))
              have R := Lib.hid (R.out.grown hg' (fun e => by have := (A.out).lt _ e.symm; omega) (fun k hk => by have := (A.out).lt k hk; omega))
              have G := Lib.hid (grown_high G.out hg' (fun k hk => by have := (A.out).lt k hk; omega))
              have qx67w := hg'.size
              have Xr := Lib.hid hv'
              clear hv' hg' A L0
              refine hK.out _ _ ?_ (fun hHeld => ?_)
              · exact ⟨P0.cell0 rfl, P0.cell0 rfl, D0.cell0 rfl⟩
              clear hK K'
              try simp only [Act.put, List.setIfInBounds_toArray, List.set_cons_zero, List.set_cons_succ]
              refine wpAnyH_take (i := 21) (v := ?_) rfl (by kernel_rfl) (by kernel_rfl) (by kernel_rfl) (fun _ _ _ h => h) (Or.inl ⟨by rfl, fun w' hS' => ?_⟩) (by assumption) ?_
              rotate_left
              · (try dsimp only at hS'); go_simp; (try rw [if_pos (by omega)]); try with_reducible rfl
              try simp only [Act.put, List.getElem_toArray, List.getElem_cons_zero, List.getElem_cons_succ, List.setIfInBounds_toArray, List.set_cons_zero, List.set_cons_succ]
              obtain ⟨rc9, rz9⟩ := (X0).rules; have rl9 := (X0).lt
              refine wpAnyH_ready (rs := [23]) (by kernel_rfl) (by simp) ?_
              refine AllReadyH.cons rfl (fun K' hK => ?_) AllReadyH.nil
              refine if_yes (by rfl) ?_
              try simp only [Act.put, List.setIfInBounds_toArray, List.set_cons_zero, List.set_cons_succ]
              go_simp
              have Xo := own_off Xr.out X0 (by decide)
              have P0 := P0.far (p := ⟨hX, 0, none⟩) (by dsimp only; omega) (.int .i64 p.pts)
              have D0 := D0.far (p := ⟨hX, 0, none⟩) (by dsimp only; omega) (.int .i64 p.pts)
              have X0 := X0.set 0 (.int .i64 p.pts)
              have Xr := Lib.hid (Xr.out.far (grown_set (i := 0) (World.grownBy.refl _ (some hX)) (.int .i64 p.pts)) (fun q hq e => Xo (e.trans hq.symm)))
              have R := Lib.hid (R.out.set (p := ⟨hX, 0, none⟩) (by dsimp only; omega) (by dsimp only; omega) (.int .i64 p.pts))
              have G := Lib.hid (grown_set' (k := hX) (i := 0) G.out lhX (.int .i64 p.pts))
              have P0 := P0.far (p := ⟨hX, 1, none⟩) (by dsimp only; omega) (.slice av N cv)
              have D0 := D0.far (p := ⟨hX, 1, none⟩) (by dsimp only; omega) (.slice av N cv)
              have X0 := X0.set 1 (.slice av N cv)
              have Xr := Lib.hid (Xr.out.far (grown_set (i := 1) (World.grownBy.refl _ (some hX)) (.slice av N cv)) (fun q hq e => Xo (e.trans hq.symm)))
              have R := Lib.hid (R.out.set (p := ⟨hX, 1, none⟩) (by dsimp only; omega) (by dsimp only; omega) (.slice av N cv))
              have G := Lib.hid (grown_set' (k := hX) (i := 1) G.out lhX (.slice av N cv))
              have P0 := P0.far (p := ⟨hX, 2, none⟩) (by dsimp only; omega) (.slice aX (l.length + 1) cX)
              have D0 := D0.far (p := ⟨hX, 2, none⟩) (by dsimp only; omega) (.slice aX (l.length + 1) cX)
              have X0 := X0.set 2 (.slice aX (l.length + 1) cX)
              have Xr := Lib.hid (Xr.out.far (grown_set (i := 2) (World.grownBy.refl _ (some hX)) (.slice aX (l.length + 1) cX)) (fun q hq e => Xo (e.trans hq.symm)))
              have R := Lib.hid (R.out.set (p := ⟨hX, 2, none⟩) (by dsimp only; omega) (by dsimp only; omega) (.slice aX (l.length + 1) cX))
              have G := Lib.hid (grown_set' (k := hX) (i := 2) G.out lhX (.slice aX (l.length + 1) cX))
              obtain ⟨x68w, hx68w⟩ : ∃ x, Hid (x = (((x67w.setCell ⟨hX, 0, none⟩ (.int .i64 p.pts)).setCell ⟨hX, 1, none⟩ (.slice av N cv)).setCell ⟨hX, 2, none⟩ (.slice aX (l.length + 1) cX))) := ⟨_, rfl⟩
              rw [← hx68w.out] at P0 D0 X0 Xr R G ⊢
              clear rc9 rz9 rl9
              refine hK.out _ _ ?_ (fun hHeld => ?_)
              · exact ⟨P0.cell0 rfl, P0.cell0 rfl, D0.cell0 rfl⟩
              clear hK K'
              try simp only [Act.put, List.setIfInBounds_toArray, List.set_cons_zero, List.set_cons_succ]
              refine wpAnyH_done (by kernel_rfl) ?_ _
              try simp only [Act.put, List.setIfInBounds_toArray, List.set_cons_zero, List.set_cons_succ]
              go_wp2_with fail
              go_meet
              exact ⟨hX, _, _, rfl, X0, lhX, Xr.out.base lhT, by simp, R.out.mono (by omega), G.out⟩
          rename World => wu
          obtain ⟨hX, vx, l2, rfl, X0, lhX, hXr, hl2, hr, hgw⟩ := hcut
          have R := Lib.hid hr
          have G := Lib.hid (grown_trans' Gw.out hgw)
          have V := Lib.hid (V.out.near hgw (by omega))
          have R0 := R0.near hgw (by omega)
          have P0 := P0.near hgw (by omega)
          have D0 := D0.near hgw (by omega)
          have Nr := Lib.hid (Nr.out.near hgw (by omega))
          have qu := hgw.size
          have X := Lib.hid (hXr.base (show wb ≤ ws2.heap.size by omega))
          obtain ⟨ax, cx, rfl, -⟩ := hXr.open
          clear hr hgw Gw hXr
          obtain ⟨rc4, rz4⟩ := (X0).rules; have rl4 := (X0).lt
          go_wp2_with fail
          refine (spec_DealOk ⟨p.pts, L2⟩ _ _ l2 _ (V.out.base (Nat.zero_le _)) (X.out.base (Nat.zero_le _)) (by have := HLn.out; dsimp only; omega) (by omega)).mono ?_
          rintro e w7 ⟨rfl, hb7⟩
          have R := Lib.hid (R.out.ext hb7)
          have G := Lib.hid (grown_ext' G.out hb7)
          have V := Lib.hid (V.out.ext hb7)
          have X := Lib.hid (X.out.ext hb7)
          have Nr := Lib.hid (Nr.out.ext hb7)
          have R0 := R0.ext hb7
          have P0 := P0.ext hb7
          have D0 := D0.ext hb7
          have X0 := X0.ext hb7
          have q7 := hb7.size
          clear hb7 rc4 rz4 rl4
          have hkk : IntKind.i64.wrap ((k : Int) - 1) = ((k - 1 : Nat) : Int) := by rw [IntWalk.i64_in _ (by omega)]; omega
          have hkk2 : (k : Int) - 1 = ((k - 1 : Nat) : Int) := by omega
          cases hdl : dealOk ⟨p.pts, L2⟩ l2
          · clear hdl
            go_wp2_with fail
            go_roundg (k - 1 + 1)
            case rel => exact ⟨k - 1, _, l, by omega, rfl, by first | rfl | rw [hkk2], by omega, Nr, V, Lib.hid (R.out.mono (by omega)), G, R0, P0, D0, by omega⟩
            case measure => have := Hk.out; omega
          · clear hdl Nr
            obtain ⟨rc4, rz4⟩ := (X0).rules; have rl4 := (X0).lt
            obtain ⟨rc6, rz6⟩ := (D0).rules; have rl6 := (D0).lt
            go_wp2_with fail
            have D0 := ((D0.set 0 (.int .i64 p.pts)).set 1 (.slice av N cv)).set 2 (.slice ax l2.length cx)
            go_roundg (k - 1 + 1)
            case rel =>
              refine ⟨k - 1, _, l2, by omega, rfl, by first | rfl | rw [hkk2], by omega, Lib.hid ?_, Lib.hid ?_, Lib.hid ?_, Lib.hid ?_, ?_, ?_, D0, by simp; omega⟩
              · exact ((X.out.low (by dsimp only; omega) _).low (by dsimp only; omega) _).low (by dsimp only; omega) _
              · exact ((V.out.far (grown_set (World.grownBy.refl _ _) _) (fun q hq e => by injection e with e; have := hVb q N hq; omega)).far (grown_set (World.grownBy.refl _ _) _) (fun q hq e => by injection e with e; have := hVb q N hq; omega)).far (grown_set (World.grownBy.refl _ _) _) (fun q hq e => by injection e with e; have := hVb q N hq; omega)
              · exact (((R.out.set (by dsimp only; omega) (by dsimp only; omega) _).set (by dsimp only; omega) (by dsimp only; omega) _).set (by dsimp only; omega) (by dsimp only; omega) _).mono (by omega)
              · exact grown_set' (grown_set' (grown_set' G.out (by omega) _) (by omega) _) (by omega) _
              · exact ((R0.far (by dsimp only; omega) _).far (by dsimp only; omega) _).far (by dsimp only; omega) _
              · exact ((P0.far (by dsimp only; omega) _).far (by dsimp only; omega) _).far (by dsimp only; omega) _
            case measure => have := Hk.out; omega
        · have hstop : ¬ ((0 : Int) < (k : Int)) ∨ (0 : Int) < (k : Int) ∧ ¬ (1 < p.pts) := by omega
          have hll : l.length ≤ 2 := by omega
          clear hgo
          rcases hstop with hk0 | ⟨hk0, hp1⟩
          · skip
            obtain ⟨rc1, rz1⟩ := (P0).rules; have rl1 := (P0).lt
            go_wp2_with fail
            clear rc1 rz1 rl1
            refine (spec_odd B g _ n _ R.out (by omega) hn).mono ?_
            rintro e w61 ⟨x61, rfl, hr, hgw, -⟩
            have R := Lib.hid hr
            have G := Lib.hid (grown_trans' G.out hgw)
            have V := Lib.hid (V.out.near hgw (by omega))
            have Nr := Lib.hid (Nr.out.near hgw (by omega))
            have R0 := R0.near hgw (by omega)
            have D0 := D0.near hgw (by omega)
            have q61 := hgw.size
            clear hr hgw P0
            cases x61
            · skip
              obtain ⟨rc1, rz1⟩ := (R0).rules; have rl1 := (R0).lt
              obtain ⟨rc3, rz3⟩ := (D0).rules; have rl3 := (D0).lt
              go_wp2_with fail
              refine bodyPost_ret (v := .agg #[.int .i64 p.pts, .slice av N cv, .slice ap l.length cp]) (by simp [results, Try.results67, go_sem, *]) rfl ?_
              exact ⟨_, _, ⟨p.pts, L2⟩, l, rfl, (((V.out.low (by dsimp only; omega) _).low (by dsimp only; omega) _).low (by dsimp only; omega) _).base (by omega), (((Nr.out.low (by dsimp only; omega) _).low (by dsimp only; omega) _).low (by dsimp only; omega) _).base (by omega), by have := HLn.out; dsimp only; omega, by omega, h0, h7, ((((R.out.set (by dsimp only; omega) (by dsimp only; omega) _).set (by dsimp only; omega) (by dsimp only; omega) _).set (by dsimp only; omega) (by dsimp only; omega) _).mono (by omega)), grown_set' (grown_set' (grown_set' G.out (Nat.le_refl _) _) (Nat.le_refl _) _) (Nat.le_refl _) _⟩
            · go_wp2_with fail
              refine (spec_pick B g _ 3 _ R.out (by omega)).mono ?_
              rintro e w62 ⟨x62, rfl, hx62, hy62, r62, g62, -⟩
              have R := Lib.hid r62
              have G := Lib.hid (grown_trans' G.out g62)
              have R0 := R0.near g62 (by omega)
              have D0 := D0.near g62 (by omega)
              have V := Lib.hid (V.out.near g62 (by omega))
              have Nr := Lib.hid (Nr.out.near g62 (by omega))
              have q62 := g62.size
              clear r62 g62
              have hx62 : x62 = 0 ∨ x62 = 1 ∨ x62 = 2 := by omega
              rcases hx62 with rfl | rfl | rfl
              · skip
                obtain ⟨rc8, rz8⟩ := (D0).rules; have rl8 := (D0).lt
                go_upto_region 24 with fail
                clear rc8 rz8 rl8
                obtain ⟨wz, hwz⟩ : ∃ wz, Hid (wz = (w62.setCell ⟨d0, 0, none⟩ (.int .i64 0)).setCell ⟨d0, 1, none⟩ (.slice none 0 0)) := ⟨_, rfl⟩
                have Xo := own_off Nr.out D0 (by decide)
                have Nr := Lib.hid ((Nr.out.far (grown_set (i := 0) (World.grownBy.refl _ (some d0)) (.int .i64 0)) (fun q hq e => Xo (e.trans hq.symm))).far (grown_set (i := 1) (World.grownBy.refl _ (some d0)) (.slice none 0 0)) (fun q hq e => Xo (e.trans hq.symm)))
                have R := Lib.hid ((R.out.set (p := ⟨d0, 0, none⟩) (by dsimp only; omega) (by dsimp only; omega) (.int .i64 0)).set (p := ⟨d0, 1, none⟩) (by dsimp only; omega) (by dsimp only; omega) (.slice none 0 0))
                have G := Lib.hid (grown_set' (k := d0) (i := 1) (grown_set' (k := d0) (i := 0) G.out (by omega) (.int .i64 0)) (by omega) (.slice none 0 0))
                have R0 := (R0.far (p := ⟨d0, 0, none⟩) (by dsimp only; omega) (.int .i64 0)).far (p := ⟨d0, 1, none⟩) (by dsimp only; omega) (.slice none 0 0)
                have D0 := (D0.set 0 (.int .i64 0)).set 1 (.slice none 0 0)
                rw [← hwz.out] at Nr R G R0 D0 ⊢
                have V0 : Bds wz wb (.slice none 0 0) [] := Bds.nil _ _
                obtain ⟨rc1, rz1⟩ := (R0).rules; have rl1 := (R0).lt
                obtain ⟨rc3, rz3⟩ := (D0).rules; have rl3 := (D0).lt
                go_wp2_with fail
                refine bodyPost_ret (v := .agg #[.int .i64 0, .slice none 0 0, .slice ap l.length cp]) (by simp [results, Try.results67, go_sem, *]) rfl ?_
                exact ⟨_, _, ⟨0, []⟩, l, rfl, (((V0.low (by dsimp only; omega) _).low (by dsimp only; omega) _).low (by dsimp only; omega) _).base (by omega), (((Nr.out.low (by dsimp only; omega) _).low (by dsimp only; omega) _).low (by dsimp only; omega) _).base (by omega), by simp, by omega, by simp, by simp, ((((R.out.set (by dsimp only; omega) (by dsimp only; omega) _).set (by dsimp only; omega) (by dsimp only; omega) _).set (by dsimp only; omega) (by dsimp only; omega) _).mono (by omega)), grown_set' (grown_set' (grown_set' G.out (Nat.le_refl _) _) (Nat.le_refl _) _) (Nat.le_refl _) _⟩
              · skip
                obtain ⟨rc8, rz8⟩ := (D0).rules; have rl8 := (D0).lt
                go_upto_region 24 with (at_builtin; clear rc8 rz8 rl8; refine wpl_appPr _ rfl (.tmp 104) (.tmp 106) rfl wb 0 (.slice ap l.length cp) l rfl (Nr.out.alloc _) (.slice (some ⟨w62.heap.size, 0, none⟩) 1 1) [⟨0, 0, 0, 1⟩] rfl ((Prs.lit w62 ⟨0, 0, 0, 1⟩).base (Nat.zero_le _)) (by simp; omega) (by simp; omega) ?_; intro v9 w9 hv9 hg9; obtain ⟨a9, c9, rfl, -⟩ := hv9.open; have D0 := (D0.alloc (.cells #[.int .i64 0, .int .i64 0, .int .i64 0, .int .i64 1] 50)).grown hg9 (own_off (Nr.out.alloc (.cells #[.int .i64 0, .int .i64 0, .int .i64 0, .int .i64 1] 50)) (D0.alloc (.cells #[.int .i64 0, .int .i64 0, .int .i64 0, .int .i64 1] 50)) (by decide)); obtain ⟨rc9, rz9⟩ := D0.rules; have rl9 := D0.lt)
                clear rc9 rz9 rl9
                have e9 : (l ++ [(⟨0, 0, 0, 1⟩ : Pr)]).length = l.length + 1 := by simp
                rw [e9] at hv9
                have V := Lib.hid ((V.out.alloc _).far hg9 (fun q hq e => by have := (Nr.out.lt _ e).1; have := hVb q N hq; omega))
                have R := Lib.hid ((R.out.alloc _).grown hg9 (fun e => by have := (Nr.out.lt _ e.symm).1; omega) (fun q hq => by have := (Nr.out.lt _ hq).1; omega))
                have G := Lib.hid (grown_high (grown_alloc' G.out _) hg9 (fun q hq => by have := (Nr.out.lt _ hq).1; omega))
                have R0 := (R0.alloc _).grown hg9 (fun e => by have := (Nr.out.lt _ e.symm).1; omega)
                have Xo := own_off hv9 D0 (by decide)
                have q9 := hg9.size
                simp only [World.size_alloc] at q9
                obtain ⟨wz, hwz⟩ : ∃ wz, Hid (wz = w9.setCell ⟨d0, 2, none⟩ (.slice a9 (l.length + 1) c9)) := ⟨_, rfl⟩
                have Nr := Lib.hid (hv9.far (grown_set (i := 2) (World.grownBy.refl _ (some d0)) (.slice a9 (l.length + 1) c9)) (fun q hq e => Xo (e.trans (by simpa using hq.symm))))
                have V := Lib.hid (V.out.far (grown_set (i := 2) (World.grownBy.refl _ (some d0)) (.slice a9 (l.length + 1) c9)) (fun q hq e => by injection e with e; have := hVb q N hq; omega))
                have R := Lib.hid (R.out.set (p := ⟨d0, 2, none⟩) (by dsimp only; omega) (by dsimp only; omega) (.slice a9 (l.length + 1) c9))
                have G := Lib.hid (grown_set' (k := d0) (i := 2) G.out (by omega) (.slice a9 (l.length + 1) c9))
                have R0 := R0.far (p := ⟨d0, 2, none⟩) (by dsimp only; omega) (.slice a9 (l.length + 1) c9)
                have D0 := D0.set 2 (.slice a9 (l.length + 1) c9)
                rw [← hwz.out] at Nr V R G R0 D0 ⊢
                clear hv9 hg9
                obtain ⟨rc1, rz1⟩ := (R0).rules; have rl1 := (R0).lt
                obtain ⟨rc3, rz3⟩ := (D0).rules; have rl3 := (D0).lt
                go_wp2_with fail
                refine bodyPost_ret (v := .agg #[.int .i64 p.pts, .slice av N cv, .slice a9 (l.length + 1) c9]) (by simp [results, Try.results67, go_sem, *]) rfl ?_
                exact ⟨_, _, ⟨p.pts, L2⟩, l ++ [⟨0, 0, 0, 1⟩], rfl, (((V.out.low (by dsimp only; omega) _).low (by dsimp only; omega) _).low (by dsimp only; omega) _).base (by omega), (((Nr.out.low (by dsimp only; omega) _).low (by dsimp only; omega) _).low (by dsimp only; omega) _).base (by omega), by have := HLn.out; dsimp only; omega, by rw [e9]; omega, h0, h7, ((((R.out.set (by dsimp only; omega) (by dsimp only; omega) _).set (by dsimp only; omega) (by dsimp only; omega) _).set (by dsimp only; omega) (by dsimp only; omega) _).mono (by omega)), grown_set' (grown_set' (grown_set' G.out (Nat.le_refl _) _) (Nat.le_refl _) _) (Nat.le_refl _) _⟩
              · skip
                obtain ⟨rc8, rz8⟩ := (D0).rules; have rl8 := (D0).lt
                go_upto_region 24 with (at_builtin; clear rc8 rz8 rl8; refine wpl_appPr _ rfl (.tmp 92) (.tmp 94) rfl wb 0 (.slice ap l.length cp) l rfl (Nr.out.alloc _) (.slice (some ⟨w62.heap.size, 0, none⟩) 1 1) [⟨0, 1, 3, 2⟩] rfl ((Prs.lit w62 ⟨0, 1, 3, 2⟩).base (Nat.zero_le _)) (by simp; omega) (by simp; omega) ?_; intro v9 w9 hv9 hg9; obtain ⟨a9, c9, rfl, -⟩ := hv9.open; have D0 := (D0.alloc (.cells #[.int .i64 0, .int .i64 1, .int .i64 3, .int .i64 2] 50)).grown hg9 (own_off (Nr.out.alloc (.cells #[.int .i64 0, .int .i64 1, .int .i64 3, .int .i64 2] 50)) (D0.alloc (.cells #[.int .i64 0, .int .i64 1, .int .i64 3, .int .i64 2] 50)) (by decide)); obtain ⟨rc9, rz9⟩ := D0.rules; have rl9 := D0.lt)
                clear rc9 rz9 rl9
                have e9 : (l ++ [(⟨0, 1, 3, 2⟩ : Pr)]).length = l.length + 1 := by simp
                rw [e9] at hv9
                have V := Lib.hid ((V.out.alloc _).far hg9 (fun q hq e => by have := (Nr.out.lt _ e).1; have := hVb q N hq; omega))
                have R := Lib.hid ((R.out.alloc _).grown hg9 (fun e => by have := (Nr.out.lt _ e.symm).1; omega) (fun q hq => by have := (Nr.out.lt _ hq).1; omega))
                have G := Lib.hid (grown_high (grown_alloc' G.out _) hg9 (fun q hq => by have := (Nr.out.lt _ hq).1; omega))
                have R0 := (R0.alloc _).grown hg9 (fun e => by have := (Nr.out.lt _ e.symm).1; omega)
                have Xo := own_off hv9 D0 (by decide)
                have q9 := hg9.size
                simp only [World.size_alloc] at q9
                obtain ⟨wz, hwz⟩ : ∃ wz, Hid (wz = w9.setCell ⟨d0, 2, none⟩ (.slice a9 (l.length + 1) c9)) := ⟨_, rfl⟩
                have Nr := Lib.hid (hv9.far (grown_set (i := 2) (World.grownBy.refl _ (some d0)) (.slice a9 (l.length + 1) c9)) (fun q hq e => Xo (e.trans (by simpa using hq.symm))))
                have V := Lib.hid (V.out.far (grown_set (i := 2) (World.grownBy.refl _ (some d0)) (.slice a9 (l.length + 1) c9)) (fun q hq e => by injection e with e; have := hVb q N hq; omega))
                have R := Lib.hid (R.out.set (p := ⟨d0, 2, none⟩) (by dsimp only; omega) (by dsimp only; omega) (.slice a9 (l.length + 1) c9))
                have G := Lib.hid (grown_set' (k := d0) (i := 2) G.out (by omega) (.slice a9 (l.length + 1) c9))
                have R0 := R0.far (p := ⟨d0, 2, none⟩) (by dsimp only; omega) (.slice a9 (l.length + 1) c9)
                have D0 := D0.set 2 (.slice a9 (l.length + 1) c9)
                rw [← hwz.out] at Nr V R G R0 D0 ⊢
                clear hv9 hg9
                obtain ⟨rc1, rz1⟩ := (R0).rules; have rl1 := (R0).lt
                obtain ⟨rc3, rz3⟩ := (D0).rules; have rl3 := (D0).lt
                go_wp2_with fail
                refine bodyPost_ret (v := .agg #[.int .i64 p.pts, .slice av N cv, .slice a9 (l.length + 1) c9]) (by simp [results, Try.results67, go_sem, *]) rfl ?_
                exact ⟨_, _, ⟨p.pts, L2⟩, l ++ [⟨0, 1, 3, 2⟩], rfl, (((V.out.low (by dsimp only; omega) _).low (by dsimp only; omega) _).low (by dsimp only; omega) _).base (by omega), (((Nr.out.low (by dsimp only; omega) _).low (by dsimp only; omega) _).low (by dsimp only; omega) _).base (by omega), by have := HLn.out; dsimp only; omega, by rw [e9]; omega, h0, h7, ((((R.out.set (by dsimp only; omega) (by dsimp only; omega) _).set (by dsimp only; omega) (by dsimp only; omega) _).set (by dsimp only; omega) (by dsimp only; omega) _).mono (by omega)), grown_set' (grown_set' (grown_set' G.out (Nat.le_refl _) _) (Nat.le_refl _) _) (Nat.le_refl _) _⟩
          · skip
            obtain ⟨rc1, rz1⟩ := (P0).rules; have rl1 := (P0).lt
            go_wp2_with fail
            clear rc1 rz1 rl1
            refine (spec_odd B g _ n _ R.out (by omega) hn).mono ?_
            rintro e w61 ⟨x61, rfl, hr, hgw, -⟩
            have R := Lib.hid hr
            have G := Lib.hid (grown_trans' G.out hgw)
            have V := Lib.hid (V.out.near hgw (by omega))
            have Nr := Lib.hid (Nr.out.near hgw (by omega))
            have R0 := R0.near hgw (by omega)
            have D0 := D0.near hgw (by omega)
            have q61 := hgw.size
            clear hr hgw P0
            cases x61
            · skip
              obtain ⟨rc1, rz1⟩ := (R0).rules; have rl1 := (R0).lt
              obtain ⟨rc3, rz3⟩ := (D0).rules; have rl3 := (D0).lt
              go_wp2_with fail
              refine bodyPost_ret (v := .agg #[.int .i64 p.pts, .slice av N cv, .slice ap l.length cp]) (by simp [results, Try.results67, go_sem, *]) rfl ?_
              exact ⟨_, _, ⟨p.pts, L2⟩, l, rfl, (((V.out.low (by dsimp only; omega) _).low (by dsimp only; omega) _).low (by dsimp only; omega) _).base (by omega), (((Nr.out.low (by dsimp only; omega) _).low (by dsimp only; omega) _).low (by dsimp only; omega) _).base (by omega), by have := HLn.out; dsimp only; omega, by omega, h0, h7, ((((R.out.set (by dsimp only; omega) (by dsimp only; omega) _).set (by dsimp only; omega) (by dsimp only; omega) _).set (by dsimp only; omega) (by dsimp only; omega) _).mono (by omega)), grown_set' (grown_set' (grown_set' G.out (Nat.le_refl _) _) (Nat.le_refl _) _) (Nat.le_refl _) _⟩
            · go_wp2_with fail
              refine (spec_pick B g _ 3 _ R.out (by omega)).mono ?_
              rintro e w62 ⟨x62, rfl, hx62, hy62, r62, g62, -⟩
              have R := Lib.hid r62
              have G := Lib.hid (grown_trans' G.out g62)
              have R0 := R0.near g62 (by omega)
              have D0 := D0.near g62 (by omega)
              have V := Lib.hid (V.out.near g62 (by omega))
              have Nr := Lib.hid (Nr.out.near g62 (by omega))
              have q62 := g62.size
              clear r62 g62
              have hx62 : x62 = 0 ∨ x62 = 1 ∨ x62 = 2 := by omega
              rcases hx62 with rfl | rfl | rfl
              · skip
                obtain ⟨rc8, rz8⟩ := (D0).rules; have rl8 := (D0).lt
                go_upto_region 24 with fail
                clear rc8 rz8 rl8
                obtain ⟨wz, hwz⟩ : ∃ wz, Hid (wz = (w62.setCell ⟨d0, 0, none⟩ (.int .i64 0)).setCell ⟨d0, 1, none⟩ (.slice none 0 0)) := ⟨_, rfl⟩
                have Xo := own_off Nr.out D0 (by decide)
                have Nr := Lib.hid ((Nr.out.far (grown_set (i := 0) (World.grownBy.refl _ (some d0)) (.int .i64 0)) (fun q hq e => Xo (e.trans hq.symm))).far (grown_set (i := 1) (World.grownBy.refl _ (some d0)) (.slice none 0 0)) (fun q hq e => Xo (e.trans hq.symm)))
                have R := Lib.hid ((R.out.set (p := ⟨d0, 0, none⟩) (by dsimp only; omega) (by dsimp only; omega) (.int .i64 0)).set (p := ⟨d0, 1, none⟩) (by dsimp only; omega) (by dsimp only; omega) (.slice none 0 0))
                have G := Lib.hid (grown_set' (k := d0) (i := 1) (grown_set' (k := d0) (i := 0) G.out (by omega) (.int .i64 0)) (by omega) (.slice none 0 0))
                have R0 := (R0.far (p := ⟨d0, 0, none⟩) (by dsimp only; omega) (.int .i64 0)).far (p := ⟨d0, 1, none⟩) (by dsimp only; omega) (.slice none 0 0)
                have D0 := (D0.set 0 (.int .i64 0)).set 1 (.slice none 0 0)
                rw [← hwz.out] at Nr R G R0 D0 ⊢
                have V0 : Bds wz wb (.slice none 0 0) [] := Bds.nil _ _
                obtain ⟨rc1, rz1⟩ := (R0).rules; have rl1 := (R0).lt
                obtain ⟨rc3, rz3⟩ := (D0).rules; have rl3 := (D0).lt
                go_wp2_with fail
                refine bodyPost_ret (v := .agg #[.int .i64 0, .slice none 0 0, .slice ap l.length cp]) (by simp [results, Try.results67, go_sem, *]) rfl ?_
                exact ⟨_, _, ⟨0, []⟩, l, rfl, (((V0.low (by dsimp only; omega) _).low (by dsimp only; omega) _).low (by dsimp only; omega) _).base (by omega), (((Nr.out.low (by dsimp only; omega) _).low (by dsimp only; omega) _).low (by dsimp only; omega) _).base (by omega), by simp, by omega, by simp, by simp, ((((R.out.set (by dsimp only; omega) (by dsimp only; omega) _).set (by dsimp only; omega) (by dsimp only; omega) _).set (by dsimp only; omega) (by dsimp only; omega) _).mono (by omega)), grown_set' (grown_set' (grown_set' G.out (Nat.le_refl _) _) (Nat.le_refl _) _) (Nat.le_refl _) _⟩
              · skip
                obtain ⟨rc8, rz8⟩ := (D0).rules; have rl8 := (D0).lt
                go_upto_region 24 with (at_builtin; clear rc8 rz8 rl8; refine wpl_appPr _ rfl (.tmp 104) (.tmp 106) rfl wb 0 (.slice ap l.length cp) l rfl (Nr.out.alloc _) (.slice (some ⟨w62.heap.size, 0, none⟩) 1 1) [⟨0, 0, 0, 1⟩] rfl ((Prs.lit w62 ⟨0, 0, 0, 1⟩).base (Nat.zero_le _)) (by simp; omega) (by simp; omega) ?_; intro v9 w9 hv9 hg9; obtain ⟨a9, c9, rfl, -⟩ := hv9.open; have D0 := (D0.alloc (.cells #[.int .i64 0, .int .i64 0, .int .i64 0, .int .i64 1] 50)).grown hg9 (own_off (Nr.out.alloc (.cells #[.int .i64 0, .int .i64 0, .int .i64 0, .int .i64 1] 50)) (D0.alloc (.cells #[.int .i64 0, .int .i64 0, .int .i64 0, .int .i64 1] 50)) (by decide)); obtain ⟨rc9, rz9⟩ := D0.rules; have rl9 := D0.lt)
                clear rc9 rz9 rl9
                have e9 : (l ++ [(⟨0, 0, 0, 1⟩ : Pr)]).length = l.length + 1 := by simp
                rw [e9] at hv9
                have V := Lib.hid ((V.out.alloc _).far hg9 (fun q hq e => by have := (Nr.out.lt _ e).1; have := hVb q N hq; omega))
                have R := Lib.hid ((R.out.alloc _).grown hg9 (fun e => by have := (Nr.out.lt _ e.symm).1; omega) (fun q hq => by have := (Nr.out.lt _ hq).1; omega))
                have G := Lib.hid (grown_high (grown_alloc' G.out _) hg9 (fun q hq => by have := (Nr.out.lt _ hq).1; omega))
                have R0 := (R0.alloc _).grown hg9 (fun e => by have := (Nr.out.lt _ e.symm).1; omega)
                have Xo := own_off hv9 D0 (by decide)
                have q9 := hg9.size
                simp only [World.size_alloc] at q9
                obtain ⟨wz, hwz⟩ : ∃ wz, Hid (wz = w9.setCell ⟨d0, 2, none⟩ (.slice a9 (l.length + 1) c9)) := ⟨_, rfl⟩
                have Nr := Lib.hid (hv9.far (grown_set (i := 2) (World.grownBy.refl _ (some d0)) (.slice a9 (l.length + 1) c9)) (fun q hq e => Xo (e.trans (by simpa using hq.symm))))
                have V := Lib.hid (V.out.far (grown_set (i := 2) (World.grownBy.refl _ (some d0)) (.slice a9 (l.length + 1) c9)) (fun q hq e => by injection e with e; have := hVb q N hq; omega))
                have R := Lib.hid (R.out.set (p := ⟨d0, 2, none⟩) (by dsimp only; omega) (by dsimp only; omega) (.slice a9 (l.length + 1) c9))
                have G := Lib.hid (grown_set' (k := d0) (i := 2) G.out (by omega) (.slice a9 (l.length + 1) c9))
                have R0 := R0.far (p := ⟨d0, 2, none⟩) (by dsimp only; omega) (.slice a9 (l.length + 1) c9)
                have D0 := D0.set 2 (.slice a9 (l.length + 1) c9)
                rw [← hwz.out] at Nr V R G R0 D0 ⊢
                clear hv9 hg9
                obtain ⟨rc1, rz1⟩ := (R0).rules; have rl1 := (R0).lt
                obtain ⟨rc3, rz3⟩ := (D0).rules; have rl3 := (D0).lt
                go_wp2_with fail
                refine bodyPost_ret (v := .agg #[.int .i64 p.pts, .slice av N cv, .slice a9 (l.length + 1) c9]) (by simp [results, Try.results67, go_sem, *]) rfl ?_
                exact ⟨_, _, ⟨p.pts, L2⟩, l ++ [⟨0, 0, 0, 1⟩], rfl, (((V.out.low (by dsimp only; omega) _).low (by dsimp only; omega) _).low (by dsimp only; omega) _).base (by omega), (((Nr.out.low (by dsimp only; omega) _).low (by dsimp only; omega) _).low (by dsimp only; omega) _).base (by omega), by have := HLn.out; dsimp only; omega, by rw [e9]; omega, h0, h7, ((((R.out.set (by dsimp only; omega) (by dsimp only; omega) _).set (by dsimp only; omega) (by dsimp only; omega) _).set (by dsimp only; omega) (by dsimp only; omega) _).mono (by omega)), grown_set' (grown_set' (grown_set' G.out (Nat.le_refl _) _) (Nat.le_refl _) _) (Nat.le_refl _) _⟩
              · skip
                obtain ⟨rc8, rz8⟩ := (D0).rules; have rl8 := (D0).lt
                go_upto_region 24 with (at_builtin; clear rc8 rz8 rl8; refine wpl_appPr _ rfl (.tmp 92) (.tmp 94) rfl wb 0 (.slice ap l.length cp) l rfl (Nr.out.alloc _) (.slice (some ⟨w62.heap.size, 0, none⟩) 1 1) [⟨0, 1, 3, 2⟩] rfl ((Prs.lit w62 ⟨0, 1, 3, 2⟩).base (Nat.zero_le _)) (by simp; omega) (by simp; omega) ?_; intro v9 w9 hv9 hg9; obtain ⟨a9, c9, rfl, -⟩ := hv9.open; have D0 := (D0.alloc (.cells #[.int .i64 0, .int .i64 1, .int .i64 3, .int .i64 2] 50)).grown hg9 (own_off (Nr.out.alloc (.cells #[.int .i64 0, .int .i64 1, .int .i64 3, .int .i64 2] 50)) (D0.alloc (.cells #[.int .i64 0, .int .i64 1, .int .i64 3, .int .i64 2] 50)) (by decide)); obtain ⟨rc9, rz9⟩ := D0.rules; have rl9 := D0.lt)
                clear rc9 rz9 rl9
                have e9 : (l ++ [(⟨0, 1, 3, 2⟩ : Pr)]).length = l.length + 1 := by simp
                rw [e9] at hv9
                have V := Lib.hid ((V.out.alloc _).far hg9 (fun q hq e => by have := (Nr.out.lt _ e).1; have := hVb q N hq; omega))
                have R := Lib.hid ((R.out.alloc _).grown hg9 (fun e => by have := (Nr.out.lt _ e.symm).1; omega) (fun q hq => by have := (Nr.out.lt _ hq).1; omega))
                have G := Lib.hid (grown_high (grown_alloc' G.out _) hg9 (fun q hq => by have := (Nr.out.lt _ hq).1; omega))
                have R0 := (R0.alloc _).grown hg9 (fun e => by have := (Nr.out.lt _ e.symm).1; omega)
                have Xo := own_off hv9 D0 (by decide)
                have q9 := hg9.size
                simp only [World.size_alloc] at q9
                obtain ⟨wz, hwz⟩ : ∃ wz, Hid (wz = w9.setCell ⟨d0, 2, none⟩ (.slice a9 (l.length + 1) c9)) := ⟨_, rfl⟩
                have Nr := Lib.hid (hv9.far (grown_set (i := 2) (World.grownBy.refl _ (some d0)) (.slice a9 (l.length + 1) c9)) (fun q hq e => Xo (e.trans (by simpa using hq.symm))))
                have V := Lib.hid (V.out.far (grown_set (i := 2) (World.grownBy.refl _ (some d0)) (.slice a9 (l.length + 1) c9)) (fun q hq e => by injection e with e; have := hVb q N hq; omega))
                have R := Lib.hid (R.out.set (p := ⟨d0, 2, none⟩) (by dsimp only; omega) (by dsimp only; omega) (.slice a9 (l.length + 1) c9))
                have G := Lib.hid (grown_set' (k := d0) (i := 2) G.out (by omega) (.slice a9 (l.length + 1) c9))
                have R0 := R0.far (p := ⟨d0, 2, none⟩) (by dsimp only; omega) (.slice a9 (l.length + 1) c9)
                have D0 := D0.set 2 (.slice a9 (l.length + 1) c9)
                rw [← hwz.out] at Nr V R G R0 D0 ⊢
                clear hv9 hg9
                obtain ⟨rc1, rz1⟩ := (R0).rules; have rl1 := (R0).lt
                obtain ⟨rc3, rz3⟩ := (D0).rules; have rl3 := (D0).lt
                go_wp2_with fail
                refine bodyPost_ret (v := .agg #[.int .i64 p.pts, .slice av N cv, .slice a9 (l.length + 1) c9]) (by simp [results, Try.results67, go_sem, *]) rfl ?_
                exact ⟨_, _, ⟨p.pts, L2⟩, l ++ [⟨0, 1, 3, 2⟩], rfl, (((V.out.low (by dsimp only; omega) _).low (by dsimp only; omega) _).low (by dsimp only; omega) _).base (by omega), (((Nr.out.low (by dsimp only; omega) _).low (by dsimp only; omega) _).low (by dsimp only; omega) _).base (by omega), by have := HLn.out; dsimp only; omega, by rw [e9]; omega, h0, h7, ((((R.out.set (by dsimp only; omega) (by dsimp only; omega) _).set (by dsimp only; omega) (by dsimp only; omega) _).set (by dsimp only; omega) (by dsimp only; omega) _).mono (by omega)), grown_set' (grown_set' (grown_set' G.out (Nat.le_refl _) _) (Nat.le_refl _) _) (Nat.le_refl _) _⟩

def RetDealD (w : World) : Ending → World → Prop := fun e w' => ∃ (v1 v2 : Value) (p : Pl) (l : List Pr), e = .returned (.agg #[.int .i64 p.pts, v1, v2]) ∧ Bds w' w.heap.size v1 p.bs ∧ Prs w' w.heap.size v2 l ∧ p.bs.length ≤ 6 ∧ l.length ≤ 3 ∧ 0 ≤ p.pts ∧ p.pts ≤ 7 ∧ Below w.heap.size w w'
set_option maxHeartbeats 1000000 in
theorem spec_DrawStrongPlan (a : Option Addr) (n cap : Nat) (w : World) (h : Byt w w.heap.size a n cap) : Calls Try.prog 31 #[.slice a n cap] w (RetDealD w) := by
  have H := Lib.hid h
  clear h
  go_enter Try.func31, Try.ntmps31
  go_wp2_with fail
  obtain ⟨W, hW, B0, hs, E⟩ := one_box w #[.int .i64 0, .slice none 0 0, .slice none 0 0] 44
  rw [← hW.out]
  refine (spec_l20Open a n cap W w.heap.size (by omega) (H.out.below E)).mono ?_
  rintro e w1 ⟨rfl, R, hb1⟩
  have E1 := ext_trans E hb1
  have B1 := B0.ext hb1
  have R := Lib.hid R
  go_wp2_with fail
  refine (spec_l20Deal w.heap.size W.heap.size 0 12 w1 R.out (by omega) (by omega)).mono ?_
  rintro e w2 ⟨v1, v2, p, l, rfl, hbs, hps, hl6, hl3, h0, h7, -, hg⟩
  have E2 := ext_grown E1 hg (fun k hk => by cases hk; omega)
  have B2 := B1.grown hg (fun e => by injection e with e; omega)
  have hz1 := hb1.size
  obtain ⟨av, cv, rfl, -⟩ := hbs.open
  obtain ⟨ap, cp, rfl, -⟩ := hps.open
  have Hbs := Lib.hid hbs
  have Hps := Lib.hid hps
  clear hbs hps hb1 hg B0 B1 E1
  obtain ⟨rc2, rz2⟩ := (B2).rules; have rl2 := (B2).lt
  go_wp2_with fail
  refine bodyPost_ret (v := .agg #[.int .i64 p.pts, .slice av p.bs.length cv, .slice ap l.length cp]) (by simp [results, Try.results31, go_sem, *]) rfl ?_
  exact ⟨_, _, p, l, rfl, (((Hbs.out.low (by dsimp only; omega) _).low (by dsimp only; omega) _).low (by dsimp only; omega) _).base (by omega), (((Hps.out.low (by dsimp only; omega) _).low (by dsimp only; omega) _).low (by dsimp only; omega) _).base (by omega), hl6, hl3, h0, h7, ext_set (ext_set (ext_set E2 (Nat.le_refl _) _) (Nat.le_refl _) _) (Nat.le_refl _) _⟩
end Go.Proofs.Ytlcmhcfnmohgmaa
