/- The walks of l14State, StateAfter and VerdictOf of spec. Conditions: the bounds and the happenings can be read, at most two million; of l14State: the happenings are a row for the plan. -/
import Derived.Test.YtffcfambgcaikaaHeardS
import Derived.Test.YtffcfambgcaikaaTail
namespace Go.Proofs.Ytffcfambgcaikaa
open Go.RowKit
set_option linter.unusedVariables false
set_option linter.unusedSimpArgs false
theorem ownI_off {w : World} {base : Nat} {v : Value} {l : List Int} (h : Ints w base v l) {g : Nat} {ys : Array Value} (hb : Box w g 43 ys) : some g ≠ v.ownBlock := by
  intro e'
  rcases h.2 with ⟨rfl, _⟩ | ⟨g', cap, cur, rfl, hg, hh, _⟩
  · cases e'
  · simp only [Value.ownBlock, Option.some.injEq] at e'
    subst e'
    unfold Box at hb
    rw [hh] at hb
    simp at hb
def RetSt (w : World) (now : Int) (d : List Int) : Ending → World → Prop := fun e w' => ∃ v, e = .returned (.agg #[.int .i64 now, v]) ∧ Ints w' w.heap.size v d ∧ Below w.heap.size w w'
/-- a state and whether it is one; none: the zero value -/
def RetStB (w : World) (p : Pl) (l : List Hp) (now : Int) : Ending → World → Prop := fun e w' => ∃ (x : Int) (v : Value) (d : List Int), e = .returned (.tuple #[.agg #[.int .i64 x, v], .bool (p.heard l && inB now (lastT l) 2000)]) ∧ Ints w' w.heap.size v d ∧
  ((p.heard l && inB now (lastT l) 2000) = true → x = now ∧ d = doneL p.n l) ∧ Below w.heap.size w w'
theorem base0_snoc (k : Nat) (h : 1 ≤ k) : base0 k ++ [-1] = base0 (k+1) := by
  unfold base0
  obtain ⟨m, rfl⟩ : ∃ m, k = m + 1 := ⟨k - 1, by omega⟩
  rw [List.cons_append, Nat.add_sub_cancel, Nat.add_sub_cancel, List.replicate_succ']
theorem base0_len (k : Nat) (h : 1 ≤ k) : (base0 k).length = k := by unfold base0; simp; omega
theorem heard_at {p : Pl} {l : List Hp} (h : p.heard l = true) {k : Nat} (hk : k < l.length) : ∃ q : Nat, (hA l k).pt = (q : Int) ∧ 1 ≤ q ∧ q < p.n := ((heard_iff.1 h).2 k hk).1
theorem last_at (l : List Hp) (h : 0 < l.length) : lastT l = (hA l (l.length - 1)).tm := by unfold lastT; rw [if_neg (by omega)]
theorem last_zero (l : List Hp) (h : l.length = 0) : lastT l = 0 := by unfold lastT; rw [if_pos h]
set_option maxRecDepth 100000 in
set_option maxHeartbeats 8000000 in
theorem spec_l14State (p : Pl) (bs lv : Value) (l : List Hp) (now : Int) (w : World) (hv : Bds w 0 bs p.bs) (hh : Hps w 0 lv l) (hd : p.heard l = true) :
    Calls Try.prog 46 #[.agg #[.int .i64 p.pts, bs], lv, .int .i64 now] w (RetSt w now (doneL p.n l)) := by
  have H := Lib.hid hh
  have Hd := Lib.hid hd
  obtain ⟨a, c, rfl, hn, hc, -⟩ := hv.open
  obtain ⟨al, cl, rfl, hnl, hcl, -⟩ := hh.open
  obtain ⟨q1, q2, q3, -, -⟩ := plok_in (fits_ok (heard_iff.1 hd).1).1
  have hl6 := (heard_len hd).1
  obtain ⟨n, hnn⟩ : ∃ n, Hid (n = p.n) := ⟨_, rfl⟩
  have Hp : Hid (p.pts = (n : Int)) := by rw [hnn.out]; exact Lib.hid q1
  rw [← hnn.out] at q2 q3 hl6 ⊢
  obtain ⟨N, hN⟩ : ∃ N, Hid (N = l.length) := ⟨_, rfl⟩
  rw [← hN.out] at hnl hl6 ⊢
  rw [Hp.out]
  clear hv hh hd q1
  go_enter Try.func46, Try.ntmps46
  go_upto_region 1 with fail
  obtain ⟨W, hW, A0, R1, hs, E⟩ := two_boxes w #[.int .i64 n, .slice a p.bs.length c] #[.int .i64 0, .slice none 0 0] 25 43
  rw [← hW.out]
  obtain ⟨rc0, rz0⟩ := (A0).rules; have rl0 := (A0).lt
  go_upto_region 2 with fail
  clear rc0 rz0 rl0
  obtain ⟨w2, hw2, T0, S0, hs2, E2⟩ := two_boxes W #[.int .i64 0] #[.int .i64 now, .slice (some ⟨W.heap.size, 0, none⟩) 1 1] 3 43
  rw [← hw2.out]
  have D : Hid (Ints w2 W.heap.size (.slice (some ⟨W.heap.size, 0, none⟩) 1 1) (base0 1)) := Lib.hid ⟨rfl, .inr ⟨W.heap.size, 1, _, rfl, Nat.le_refl _, T0, Nat.le_refl _, by decide, rfl, rfl⟩⟩
  clear T0
  go_wp2_with fail
  go_loopg [8] (n - 1) (fun m kk wr => ∃ (k : Nat) (ad : Option Addr) (cd : Nat), 1 ≤ k ∧ k ≤ n ∧ m = n - k ∧ kk = .int .i64 k ∧ Hid (Ints wr W.heap.size (.slice ad k cd) (base0 k)) ∧ Below W.heap.size W wr ∧ Box wr (W.heap.size + 1) 43 #[.int .i64 now, .slice ad k cd])
  case atStart => exact ⟨1, _, _, Nat.le_refl _, q2, by omega, rfl, D, E2, S0⟩
  case round =>
    clear D E2 S0
    obtain ⟨k, ad, cd, hk1, hk, hgk, rfl, D, hb, S0⟩ := hrel
    have Hk := Lib.hid hgk
    clear hgk
    have A1 := A0.ext hb
    have hbs := hb.size
    obtain ⟨rc0, rz0⟩ := (A1).rules; have rl0 := (A1).lt
    obtain ⟨rc1, rz1⟩ := (S0).rules; have rl1 := (S0).lt
    by_cases hlk : k < n
    · have hL1 : Hid ((base0 k ++ [-1]).length = k + 1) := by rw [base0_snoc k hk1, base0_len _ (by omega)]; exact Lib.hid rfl
      go_wp2_with (at_builtin; refine wpl_appI _ rfl (.tmp 20) (.tmp 21) rfl W.heap.size 0 (.slice ad k cd) (base0 k) rfl (D.out.alloc _) (.slice (some ⟨wr.heap.size, 0, none⟩) 1 1) [-1] rfl ((Ints.lit wr (-1)).base (Nat.zero_le _)) (by rw [base0_len k hk1]; simp; omega) (by simp; omega) ?_; intro v9 w9 hv9 hg9; obtain ⟨a9, c9, hav9, -⟩ := hv9.open; rw [hL1.out] at hav9; subst hav9; have S3 := (S0.alloc (.cells #[.int .i64 (-1)] 3)).grown hg9 (ownI_off (D.out.alloc (.cells #[.int .i64 (-1)] 3)) (S0.alloc (.cells #[.int .i64 (-1)] 3))); clear rc1 rz1 rl1; obtain ⟨rc1, rz1⟩ := S3.rules; have rl1 := S3.lt)
      have Xo := ownI_off hv9 S3
      rw [base0_snoc k hk1] at hv9
      go_roundg (n - (k+1))
      case rel => exact ⟨k+1, a9, c9, by omega, by omega, rfl, by go_num, Lib.hid (hv9.far (grown_set (i := 1) (World.grownBy.refl _ (some (W.heap.size + 1))) _) (fun q hq e => Xo (e.trans hq.symm))), ext_set (ext_grown (ext_alloc hb _) hg9 (fun q hq => (D.out.lt q hq).1)) (by dsimp only; omega) _, S3.set 1 _⟩
      case measure => have := Hk.out; omega
    · have hkn : k = n := by omega
      subst hkn
      obtain ⟨gd, hgd, hgdb, hgdl, hgdf, -⟩ := D.out.at_ (j := 0) (by rw [base0_len k hk1]; omega)
      subst hgd
      have D : Hid (Ints wr W.heap.size (.slice (some ⟨gd, 0, none⟩) k cd) (doneTo k l 0)) := D
      go_wp2_with fail
      clear rc0 rz0 rl0 rc1 rz1 rl1
      go_loopg [9] N (fun m jj wx => ∃ j : Nat, j ≤ N ∧ m = N - j ∧ jj = .int .i64 j ∧ Hid (Ints wx W.heap.size (.slice (some ⟨gd, 0, none⟩) k cd) (doneTo k l j)) ∧ Below W.heap.size W wx ∧ Box wx (W.heap.size + 1) 43 #[.int .i64 now, .slice (some ⟨gd, 0, none⟩) k cd])
      case atStart => exact ⟨0, by omega, by omega, rfl, D, hb, S0⟩
      case round =>
        clear D hb S0
        rename World => wx
        obtain ⟨j, hj, hgj, rfl, D, hb, S0⟩ := hrel
        have Hj := Lib.hid hgj
        clear hgj
        have hlen : (doneTo k l j).length = k := doneTo_length k q2 l j
        by_cases hlj : j < N
        · obtain ⟨g, ha, hg, cx, cy⟩ := ((H.out.ext E).ext hb).atA (j := j) (by rw [← hN.out]; exact hlj)
          subst ha
          obtain ⟨q, hq, hq1, hqn⟩ := heard_at Hd.out (k := j) (by rw [← hN.out]; exact hlj)
          rw [← hnn.out] at hqn
          have hqt : (hA l j).pt.toNat = q := by omega
          obtain ⟨y, hy⟩ : ∃ x, Hid (x = (hA l j).tm) := ⟨_, rfl⟩
          have hnx : Hid (doneTo k l (j+1) = (doneTo k l j).set q y) := by rw [hy.out, ← hqt]; exact Lib.hid rfl
          rw [hq] at cx
          rw [← hy.out] at cy
          obtain ⟨g', he, -, hgdx, hgdf, hz⟩ := D.out.at_ (j := q) (by omega)
          cases he
          obtain ⟨z, hz0⟩ : ∃ z, Hid (z = (doneTo k l j).getD q 0) := ⟨_, rfl⟩
          rw [← hz0.out] at hz
          have Xo := ownI_off D.out S0
          have hgne : gd ≠ W.heap.size + 1 := fun e => Xo (by rw [← e]; rfl)
          clear hq hqt
          have hqni : (0 : Int) ≤ (q : Int) := by omega
          have hqnk : (q : Int) < (k : Int) := by omega
          go_wp2_with fail
          refine wp_region_tail 13 (by kernel_rfl) (by kernel_rfl) (fun w' => w'.cell? ⟨W.heap.size + 1, 1, none⟩ = some (.slice (some ⟨gd, 0, none⟩) k cd) ∧ w'.cell? ⟨g, j * 2, none⟩ = some (.int .i64 q) ∧ w'.cell? ⟨g, j * 2 + 1, none⟩ = some (.int .i64 y)) ⟨S0.cell0 rfl, cx, cy⟩ ?_
          intro hHeld
          obtain ⟨dw, hdw⟩ : ∃ d, Hid (d = wx.drew) := ⟨_, rfl⟩
          have Ed : Below wx.heap.size wx dw := by rw [hdw.out]; exact ext_drew (ext_refl _)
          have hz : dw.cell? ⟨gd, q, none⟩ = some (.int .i64 z) := by rw [hdw.out]; exact hz
          have hgdf : ∀ i, dw.frozen? ⟨gd, i, none⟩ = false := by rw [hdw.out]; exact hgdf
          rw [← hdw.out] at hHeld ⊢
          have D := Lib.hid (D.out.ext Ed)
          have hb := ext_trans hb Ed
          have S0 := S0.ext Ed
          clear Ed cx cy
          simp only [List.pop_toArray, List.dropLast]
          refine wpAnyH_take (i := 0) (v := ?_) rfl (by kernel_rfl) (by kernel_rfl) (by kernel_rfl) (fun _ _ _ h => h) (Or.inl ⟨by rfl, fun w' hS' => ?_⟩) (by assumption) ?_
          rotate_left
          · (try dsimp only at hS'); go_simp; (try rw [if_pos (by omega)]); try with_reducible rfl
          try simp only [Act.put, List.getElem_toArray, List.getElem_cons_zero, List.getElem_cons_succ, List.setIfInBounds_toArray, List.set_cons_zero, List.set_cons_succ]
          refine wpAnyH_take (i := 1) (v := ?_) rfl (by kernel_rfl) (by kernel_rfl) (by kernel_rfl) (fun _ _ _ h => h) (Or.inl ⟨by rfl, fun w' hS' => ?_⟩) (by assumption) ?_
          rotate_left
          · (try dsimp only at hS'); go_simp; (try rw [if_pos (by omega)]); try with_reducible rfl
          try simp only [Act.put, List.getElem_toArray, List.getElem_cons_zero, List.getElem_cons_succ, List.setIfInBounds_toArray, List.set_cons_zero, List.set_cons_succ]
          refine wpAnyH_take (i := 2) (v := ?_) rfl (by kernel_rfl) (by kernel_rfl) (by kernel_rfl) (fun _ _ _ h => h) (Or.inl ⟨by rfl, fun w' hS' => ?_⟩) (by assumption) ?_
          rotate_left
          · (try dsimp only at hS'); go_simp; (try rw [if_pos (by omega)]); try with_reducible rfl
          try simp only [Act.put, List.getElem_toArray, List.getElem_cons_zero, List.getElem_cons_succ, List.setIfInBounds_toArray, List.set_cons_zero, List.set_cons_succ]
          refine wpAnyH_take (i := 3) (v := ?_) rfl (by kernel_rfl) (by kernel_rfl) (by kernel_rfl) (fun _ _ _ h => h) (Or.inl ⟨by rfl, fun w' hS' => ?_⟩) (by assumption) ?_
          rotate_left
          · (try dsimp only at hS'); go_simp; (try rw [if_pos (by omega)]); try with_reducible rfl
          try simp only [Act.put, List.getElem_toArray, List.getElem_cons_zero, List.getElem_cons_succ, List.setIfInBounds_toArray, List.set_cons_zero, List.set_cons_succ]
          refine wpAnyH_take (i := 4) (v := ?_) rfl (by kernel_rfl) (by kernel_rfl) (by kernel_rfl) (fun _ _ _ h => h) (Or.inl ⟨by rfl, fun w' hS' => ?_⟩) (by assumption) ?_
          rotate_left
          · (try dsimp only at hS'); go_simp; (try rw [if_pos (by omega)]); try with_reducible rfl
          try simp only [Act.put, List.getElem_toArray, List.getElem_cons_zero, List.getElem_cons_succ, List.setIfInBounds_toArray, List.set_cons_zero, List.set_cons_succ]
          refine wpAnyH_take (i := 5) (v := ?_) rfl (by kernel_rfl) (by kernel_rfl) (by kernel_rfl) (fun _ _ _ h => h) (Or.inl ⟨by rfl, fun w' hS' => ?_⟩) (by assumption) ?_
          rotate_left
          · (try dsimp only at hS'); go_simp; (try rw [if_pos (by omega)]); try with_reducible rfl
          try simp only [Act.put, List.getElem_toArray, List.getElem_cons_zero, List.getElem_cons_succ, List.setIfInBounds_toArray, List.set_cons_zero, List.set_cons_succ]
          refine wpAnyH_take (i := 6) (v := ?_) rfl (by kernel_rfl) (by kernel_rfl) (by kernel_rfl) (fun _ _ _ h => h) (Or.inl ⟨by rfl, fun w' hS' => ?_⟩) (by assumption) ?_
          rotate_left
          · (try dsimp only at hS'); go_simp; (try rw [if_pos (by omega)]); try with_reducible rfl
          try simp only [Act.put, List.getElem_toArray, List.getElem_cons_zero, List.getElem_cons_succ, List.setIfInBounds_toArray, List.set_cons_zero, List.set_cons_succ]
          refine wpAnyH_take (i := 7) (v := ?_) rfl (by kernel_rfl) (by kernel_rfl) (by kernel_rfl) (fun _ _ _ h => h) (Or.inl ⟨by rfl, fun w' hS' => ?_⟩) (by assumption) ?_
          rotate_left
          · (try dsimp only at hS'); go_simp; (try rw [if_pos (by omega)]); try with_reducible rfl
          try simp only [Act.put, List.getElem_toArray, List.getElem_cons_zero, List.getElem_cons_succ, List.setIfInBounds_toArray, List.set_cons_zero, List.set_cons_succ]
          refine wpAnyH_take (i := 8) (v := ?_) rfl (by kernel_rfl) (by kernel_rfl) (by kernel_rfl) (fun _ _ _ h => h) (Or.inl ⟨by rfl, fun w' hS' => ?_⟩) (by assumption) ?_
          rotate_left
          · (try dsimp only at hS'); go_simp; (try rw [if_pos (by omega)]); try with_reducible rfl
          try simp only [Act.put, List.getElem_toArray, List.getElem_cons_zero, List.getElem_cons_succ, List.setIfInBounds_toArray, List.set_cons_zero, List.set_cons_succ]
          refine wpAnyH_take (i := 9) (v := ?_) rfl (by kernel_rfl) (by kernel_rfl) (by kernel_rfl) (fun _ _ _ h => h) (Or.inl ⟨by rfl, fun w' hS' => ?_⟩) (by assumption) ?_
          rotate_left
          · (try dsimp only at hS'); go_simp; (try rw [if_pos (by omega)]); try with_reducible rfl
          try simp only [Act.put, List.getElem_toArray, List.getElem_cons_zero, List.getElem_cons_succ, List.setIfInBounds_toArray, List.set_cons_zero, List.set_cons_succ]
          refine wpAnyH_take (i := 10) (v := ?_) rfl (by kernel_rfl) (by kernel_rfl) (by kernel_rfl) (fun _ _ _ h => h) (Or.inl ⟨by rfl, fun w' hS' => ?_⟩) (by assumption) ?_
          rotate_left
          · (try dsimp only at hS'); go_simp; (try rw [if_pos (by omega)]); try with_reducible rfl
          try simp only [Act.put, List.getElem_toArray, List.getElem_cons_zero, List.getElem_cons_succ, List.setIfInBounds_toArray, List.set_cons_zero, List.set_cons_succ]
          refine wpAnyH_take (i := 11) (v := ?_) rfl (by kernel_rfl) (by kernel_rfl) (by kernel_rfl) (fun _ _ _ h => h) (Or.inl ⟨by rfl, fun w' hS' => ?_⟩) (by assumption) ?_
          rotate_left
          · (try dsimp only at hS'); go_simp; (try rw [if_pos (by omega)]); try with_reducible rfl
          try simp only [Act.put, List.getElem_toArray, List.getElem_cons_zero, List.getElem_cons_succ, List.setIfInBounds_toArray, List.set_cons_zero, List.set_cons_succ]
          refine wpAnyH_take (i := 12) (v := ?_) rfl (by kernel_rfl) (by kernel_rfl) (by kernel_rfl) (fun _ _ _ h => h) (Or.inl ⟨by rfl, fun w' hS' => ?_⟩) (by assumption) ?_
          rotate_left
          · (try dsimp only at hS'); go_simp; (try rw [if_pos (by omega)]); try with_reducible rfl
          try simp only [Act.put, List.getElem_toArray, List.getElem_cons_zero, List.getElem_cons_succ, List.setIfInBounds_toArray, List.set_cons_zero, List.set_cons_succ]
          refine wpAnyH_done (by kernel_rfl) ?_ _
          refine tail_step rfl (fun K' hK => ?_)
          refine if_yes (by rfl) ?_
          try simp only [Act.put, List.getElem_toArray, List.getElem_cons_zero, List.getElem_cons_succ, List.setIfInBounds_toArray, List.set_cons_zero, List.set_cons_succ]
          go_simp
          refine hK _ _ ?_
          clear hK K'
          try simp only [Act.put, List.getElem_toArray, List.getElem_cons_zero, List.getElem_cons_succ, List.setIfInBounds_toArray, List.set_cons_zero, List.set_cons_succ]
          go_wp2_with fail
          have hds := D.out.set q y
          rw [← hnx.out] at hds
          go_roundg (N - (j+1))
          case rel => exact ⟨j+1, by omega, rfl, by go_num, Lib.hid hds, ext_set hb (by dsimp only; omega) _, S0.far (by dsimp only; omega) _⟩
          case measure => have := Hj.out; omega
        · have hjN : j = N := by omega
          subst hjN
          have R2 := R1.ext hb
          obtain ⟨rc1, rz1⟩ := (R2).rules; have rl1 := (R2).lt
          obtain ⟨rc2, rz2⟩ := (S0).rules; have rl2 := (S0).lt
          have hWs := hb.size
          go_wp2_with fail
          refine bodyPost_ret (v := .agg #[.int .i64 now, .slice (some ⟨gd, 0, none⟩) k cd]) (by simp [results, Try.results46, go_sem, *]) rfl ?_
          refine ⟨_, rfl, ?_, ext_set (ext_set (ext_trans E hb) (by simp) _) (by simp) _⟩
          have hD := D.out
          rw [hN.out] at hD
          exact ((hD.low (by dsimp only; omega) _).low (by dsimp only; omega) _).base (by omega)
end Go.Proofs.Ytffcfambgcaikaa
