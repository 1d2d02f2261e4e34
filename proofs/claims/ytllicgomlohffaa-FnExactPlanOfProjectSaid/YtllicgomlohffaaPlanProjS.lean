/- The walk of PlanOfProject of spec. Condition: the numbers can be read. -/
import Derived.Test.YtllicgomlohffaaPlanProj
namespace Go.Proofs.Ytllicgomlohffaa
open Go.RowKit
set_option linter.unusedVariables false
set_option linter.unusedSimpArgs false
set_option maxRecDepth 100000 in
set_option maxHeartbeats 8000000 in
theorem spec_PlanOfProject (p : Pj) (v1 v2 : Value) (w : World) (h1 : Ints w 0 v1 p.lo) (h2 : Ints w 0 v2 p.af) :
    Calls Try.prog 41 #[.agg #[v1, v2]] w (RetPlanB w p.plan p.planOk) := by
  have H1 := Lib.hid h1; have H2 := Lib.hid h2
  obtain ⟨a1, c1, rfl, hn1, hc1, -⟩ := h1.open
  obtain ⟨a2, c2, rfl, hn2, hc2, -⟩ := h2.open
  clear h1 h2
  go_enter Try.func41, Try.ntmps41
  go_wp2_with fail
  obtain ⟨W, hW, A0, R, hs, E⟩ := two_boxes w #[.slice a1 p.lo.length c1, .slice a2 p.af.length c2] #[.int .i64 0, .slice none 0 0] 27 44
  rw [← hW.out]
  have q0 : w.heap.size + 2 ≤ W.heap.size := hs
  refine (spec_ProjectOk p _ _ _ (H1.out.ext E) (H2.out.ext E)).mono ?_
  rintro e w1 ⟨rfl, hb1⟩
  have A0 := A0.ext hb1
  have R := R.ext hb1
  have E := ext_trans E hb1
  have q1 := hb1.size
  clear hb1 
  cases hok : p.ok
  · have Hf : Hid (p.planOk = false) := by simp [Pj.planOk, hok]; exact Lib.hid trivial
    have Hz : Hid (p.plan = Pl.zero) := Lib.hid (if_neg (by rw [Hf.out]; simp))
    clear hok
    obtain ⟨rc2, rz2⟩ := (R).rules; have rl2 := (R).lt
    go_wp2_with fail
    refine bodyPost_ret (v := .tuple #[.agg #[.int .i64 0, .slice none 0 0], .bool false]) (by simp [results, Try.results41, go_sem, *]) rfl ?_
    rw [Hf.out, Hz.out]
    exact ⟨_, rfl, Bds.nil _ _, ext_set (ext_set E (by dsimp only; omega) _) (by dsimp only; omega) _⟩
  have Hok := Lib.hid hok
  obtain ⟨hl6, haf, hLs, hAs⟩ := ok_upto hok
  have HLs := Lib.hid hLs; have HAs := Lib.hid hAs; have Haf := Lib.hid haf
  obtain ⟨n, hn⟩ : ∃ n, Hid (n = p.lo.length) := ⟨_, rfl⟩
  have hf2 : Hid (p.af.length = n) := by rw [hn.out]; exact haf
  rw [← hn.out] at hl6 hn1 A0 ⊢
  clear hok haf hLs hAs
  by_cases h4 : 4 < n
  · have Hf : Hid (p.planOk = false) := by unfold Pj.planOk; rw [← hn.out, decide_eq_false (by omega)]; simp; exact Lib.hid trivial
    have Hz : Hid (p.plan = Pl.zero) := Lib.hid (if_neg (by rw [Hf.out]; simp))
    have h4i : (4 : Int) < (n : Int) := by omega
    obtain ⟨rc0, rz0⟩ := (A0).rules; have rl0 := (A0).lt
    obtain ⟨rc2, rz2⟩ := (R).rules; have rl2 := (R).lt
    go_wp2_with fail
    refine bodyPost_ret (v := .tuple #[.agg #[.int .i64 0, .slice none 0 0], .bool false]) (by simp [results, Try.results41, go_sem, *]) rfl ?_
    rw [Hf.out, Hz.out]
    exact ⟨_, rfl, Bds.nil _ _, ext_set (ext_set E (by dsimp only; omega) _) (by dsimp only; omega) _⟩
  have h4i : ¬ ((4 : Int) < (n : Int)) := by omega
  have Hk : Hid (p.planOk = p.asPl.ok) := by unfold Pj.planOk; rw [Hok.out, ← hn.out, decide_eq_true (by omega)]; exact Lib.hid rfl
  have Hk2 : Hid (p.plan = p.asPl.told) := by unfold Pj.plan Pl.told; rw [Hk.out]; exact Lib.hid rfl
  have hw2 : IntKind.i64.wrap ((n : Int) + 2) = (n : Int) + 2 := IntWalk.i64_in _ (by omega)
  have hwn : IntKind.i64.wrap ((n : Int) + 1) = (n : Int) + 1 := IntWalk.i64_in _ (by omega)
  have hwn2 : IntKind.i64.wrap ((n : Int) + 1 + 1) = (n : Int) + 2 := by rw [IntWalk.i64_in _ (by omega)]; omega
  obtain ⟨rc0, rz0⟩ := (A0).rules; have rl0 := (A0).lt
  go_upto_region 5 with fail
  obtain ⟨w5, hw5, O, hs5, hb⟩ := one_box w1 #[.int .i64 ((n : Int) + 2), .slice none 0 0] 44
  rw [← hw5.out]
  clear rc0 rz0 rl0 hw2 hwn2
  have A1 := A0.ext hb
  obtain ⟨rc0, rz0⟩ := (A1).rules; have rl0 := (A1).lt
  go_wp2_with fail
  clear rc0 rz0 rl0 A1
  go_loopg [6] n (fun m ii wr => ∃ (i : Nat) (tl : List Bd) (vo : Value), i ≤ n ∧ m = n - i ∧ ii = .int .i64 i ∧ Hid (tl = pAll p n i) ∧ Box wr w1.heap.size 44 #[.int .i64 ((n : Int) + 2), vo] ∧ Hid (Bds wr (w1.heap.size + 1) vo tl) ∧ Below w1.heap.size w1 wr)
  case atStart => exact ⟨0, [], .slice none 0 0, by omega, by omega, rfl, Lib.hid rfl, O, Lib.hid (Bds.nil _ _), hb⟩
  case round =>
    clear O hb
    rename World => wr
    obtain ⟨i, tl, vo, hi, hgk, rfl, htl, O, T, hb⟩ := hrel
    have Hi := Lib.hid hgk
    clear hgk
    obtain ⟨ao, co, rfl, -⟩ := T.out.open
    have A1 := A0.ext hb
    obtain ⟨rc0, rz0⟩ := (A1).rules; have rl0 := (A1).lt
    by_cases hlt : i < n
    · have hil : i < p.lo.length := by rw [← hn.out]; exact hlt
      have E1 := ext_trans E hb
      obtain ⟨g1, ha1, _, hg1, _, cl⟩ := (H1.out.ext E).at_ hil
      subst ha1
      have cl := (hb.cell (by exact hg1)).trans cl
      have hg1r := Nat.lt_of_lt_of_le hg1 hb.size
      obtain ⟨yi, Hyi⟩ : ∃ y, Hid (y = p.L i) := ⟨_, rfl⟩
      have hyi := HLs.out i hil
      rw [← Hyi.out] at hyi
      rw [show p.lo.getD i 0 = yi from Hyi.out.symm] at cl
      have hlen : tl.length ≤ 24 := by rw [htl.out]; have := pAll_length p n i (by omega); omega
      have hwi : IntKind.i64.wrap ((i : Int) + 1) = (i : Int) + 1 := IntWalk.i64_in _ (by omega)
      have hA := HAs.out i hil
      obtain ⟨b, Hb⟩ : ∃ b, Hid (b = p.A i) := ⟨_, rfl⟩
      rw [← Hb.out] at hA
      have hbb : 0 ≤ b ∧ b ≤ 64 := by
        have key : ∀ m : Fin 7, (2 : Int) ^ m.val ≤ 64 := by decide
        have := key ⟨i, by omega⟩
        dsimp only at this
        omega
      clear hA
      obtain ⟨rc1, rz1⟩ := (O).rules; have rl1 := (O).lt
      go_wp2_with (at_builtin; refine wpl_appB _ rfl (.tmp 33) (.tmp 37) rfl (w1.heap.size + 1) 0 (.slice ao tl.length co) tl rfl (T.out.alloc _) (.slice (some ⟨wr.heap.size, 0, none⟩) 1 1) [⟨(i : Int) + 1, 0, 0⟩] rfl ((Bds.lit wr ⟨(i : Int) + 1, 0, 0⟩).base (Nat.zero_le _)) (by simp; omega) (by have := O.lt; simp; omega) ?_; intro v9 w9 hv9 hg9; obtain ⟨a9, c9, rfl, -⟩ := hv9.open; have O9 := (O.alloc (.cells #[.int .i64 ((i : Int) + 1), .int .i64 (0), .int .i64 (0)] 61)).grown hg9 (fun e => by have := (T.out.lt _ e.symm).1; omega); have hb9 := ext_grown (ext_alloc hb (.cells #[.int .i64 ((i : Int) + 1), .int .i64 (0), .int .i64 (0)] 61)) hg9 (fun q hq => by have := (T.out.lt q hq).1; omega); clear rc1 rz1 rl1; obtain ⟨rc1, rz1⟩ := O9.rules; have rl1 := O9.lt)
      have hvs : Hid (Bds (w9.setCell ⟨w1.heap.size, 1, none⟩ (.slice a9 (tl.length + 1) c9)) (w1.heap.size + 1) (.slice a9 (tl.length + 1) c9) (tl ++ [(⟨(i : Int) + 1, 0, 0⟩ : Bd)])) := by
        have hv := hv9
        rw [List.length_append, List.length_singleton] at hv
        exact hv.low (p := ⟨w1.heap.size, 1, none⟩) (by dsimp only; omega) (.slice a9 (tl.length + 1) c9)
      clear hv9
      go_loopg [7] i (fun m kk wx => ∃ (k : Nat) (tl2 : List Bd) (vo : Value), k ≤ i ∧ m = i - k ∧ kk = .int .i64 k ∧ Hid (tl2 = (pAll p n i ++ [⟨(i : Int) + 1, 0, 0⟩]) ++ pRow p i k) ∧ Box wx w1.heap.size 44 #[.int .i64 ((n : Int) + 2), vo] ∧ Hid (Bds wx (w1.heap.size + 1) vo tl2) ∧ Below w1.heap.size w1 wx)
      case atStart => exact ⟨0, _, _, by omega, by omega, rfl, Lib.hid (by rw [htl.out]; simp [pRow]), O9.set 1 _, hvs, ext_set hb9 (by dsimp only; omega) _⟩
      case round =>
        clear O T hb htl O9 hvs hb9 rc0 rz0 rl0 rc1 rz1 rl1 A1 E1 cl hg1r hg9
        rename World => wx
        obtain ⟨k, tl2, vo2, hk, hgk, rfl, htl2, O, T, hb⟩ := hrel
        have Hk := Lib.hid hgk
        clear hgk
        obtain ⟨ao, co, rfl, -⟩ := T.out.open
        have A1 := A0.ext hb
        have E1 := ext_trans E hb
        have hlen2 : tl2.length ≤ 40 := by
          rw [htl2.out, List.length_append, List.length_append, List.length_singleton]
          have := pAll_length p n i (by omega)
          have := pRow_length p i k
          omega
        have hg1r := Nat.lt_of_lt_of_le hg1 hb.size
        by_cases hlk : k < i
        · have hko : k < p.lo.length := by rw [← hn.out]; omega
          have cy : wx.cell? ⟨g1, k, none⟩ = some (.int .i64 (p.L k)) := ((H1.out.ext E1).cellJ' hko)
          obtain ⟨y, Hy⟩ : ∃ y, Hid (y = p.L k) := ⟨_, rfl⟩
          have hy := HLs.out k hko
          rw [← Hy.out] at cy hy
          have cy4 : Hid (w1.cell? ⟨g1, k, none⟩ = some (.int .i64 y)) := by rw [← (hb.cell (p := ⟨g1, k, none⟩) (by exact hg1))]; exact cy
          have hwk : IntKind.i64.wrap ((k : Int) + 1) = (k : Int) + 1 := IntWalk.i64_in _ (by omega)
          have hwy : IntKind.i64.wrap (-y) = -y := IntWalk.i64_in _ (by omega)
          have hkn : k < n := by omega
          have hpr : Hid (pRow p i (k+1) = pRow p i k ++ (if bit b k then [⟨(i : Int) + 1, (k : Int) + 1, -y⟩] else [])) := by rw [Hy.out, Hb.out]; exact Lib.hid rfl
          obtain ⟨rc0, rz0⟩ := (A1).rules; have rl0 := (A1).lt
          have hia : i < p.af.length := by rw [Haf.out]; exact hil
          obtain ⟨g2, ha2, _, hg2, _, cb⟩ := (H2.out.ext E1).at_ hia
          subst ha2
          rw [show p.af.getD i 0 = b from Hb.out.symm] at cb
          have hdv := div_pow_le b k hbb.1 (by omega)
          cases hbit : bit b k
          · have hsame : Hid (pRow p i (k+1) = pRow p i k) := by rw [hpr.out, hbit]; simp; exact Lib.hid trivial
            have he : (b / 2 ^ k % 2 == 1) = false := hbit
            clear hbit
            go_wp2_with fail
            go_roundg (i - (k+1))
            case rel => exact ⟨k+1, tl2, _, by omega, rfl, by go_num, by rw [hsame.out]; exact htl2, O, T, hb⟩
            case measure => have := Hk.out; omega
          · have he : (b / 2 ^ k % 2 == 1) = true := hbit
            have hbit := Lib.hid hbit
            obtain ⟨rc1, rz1⟩ := (O).rules; have rl1 := (O).lt
            go_upto_region 13 with fail
            refine wp_region_tail 16 (by kernel_rfl) (by kernel_rfl) (fun w' => w'.cell? ⟨w1.heap.size, 1, none⟩ = some (.slice ao tl2.length co) ∧ w'.cell? ⟨w.heap.size, 0, none⟩ = some (Value.slice (some ⟨g1, 0, none⟩) n c1) ∧ w'.cell? ⟨g1, k, none⟩ = some (Value.int .i64 y)) ?_ ?_
            · exact ⟨O.cell0 rfl, A1.cell0 rfl, cy⟩
            intro hHeld
            obtain ⟨d, hd⟩ : ∃ d, Hid (d = wx.drew) := ⟨_, rfl⟩
            have qd : wx.heap.size ≤ d.heap.size := by rw [hd.out]; exact Nat.le_refl _
            have O := O.drew
            have T := Lib.hid T.out.drew
            have hb := ext_drew hb
            rw [← hd.out] at O T hb hHeld ⊢
            clear rc0 rz0 rl0 rc1 rz1 rl1 cy
            simp only [List.pop_toArray, List.dropLast]
            refine wpAnyH_take (i := 0) (v := ?_) rfl (by kernel_rfl) (by kernel_rfl) (by kernel_rfl) (fun _ _ _ h => h) (Or.inl ⟨by rfl, fun w' hS' => ?_⟩) (by assumption) ?_
            rotate_left
            · (try dsimp only at hS'); go_simp; (try rw [if_pos (by omega)]); try with_reducible rfl
            try simp only [Act.put, List.getElem_toArray, List.getElem_cons_zero, List.getElem_cons_succ, List.setIfInBounds_toArray, List.set_cons_zero, List.set_cons_succ]
            refine wpAnyH_take (i := 1) (v := ?_) rfl (by kernel_rfl) (by kernel_rfl) (by kernel_rfl) (fun _ _ _ h => h) (Or.inl ⟨by rfl, fun w' hS' => ?_⟩) (by assumption) ?_
            rotate_left
            · (try dsimp only at hS'); go_simp; (try rw [if_pos (by omega)]); try with_reducible rfl
            try simp only [Act.put, List.getElem_toArray, List.getElem_cons_zero, List.getElem_cons_succ, List.setIfInBounds_toArray, List.set_cons_zero, List.set_cons_succ]
            refine wpAnyH_take (i := 2) (v := ?_) rfl (by kernel_rfl) (by kernel_rfl) (by kernel_rfl) (fun _ _ _ h => h) (Or.inl ⟨by rfl, fun w' hS' => ?_⟩) (by assumption) ?_
            rotate_left
            · (try dsimp only at hS'); go_simp; (try rw [if_pos (by omega)]); try with_reducible rfl
            try simp only [Act.put, List.getElem_toArray, List.getElem_cons_zero, List.getElem_cons_succ, List.setIfInBounds_toArray, List.set_cons_zero, List.set_cons_succ]
            refine wpAnyH_take (i := 3) (v := ?_) rfl (by kernel_rfl) (by kernel_rfl) (by kernel_rfl) (fun _ _ _ h => h) (Or.inl ⟨by rfl, fun w' hS' => ?_⟩) (by assumption) ?_
            rotate_left
            · (try dsimp only at hS'); go_simp; (try rw [if_pos (by omega)]); try with_reducible rfl
            try simp only [Act.put, List.getElem_toArray, List.getElem_cons_zero, List.getElem_cons_succ, List.setIfInBounds_toArray, List.set_cons_zero, List.set_cons_succ]
            refine wpAnyH_take (i := 4) (v := ?_) rfl (by kernel_rfl) (by kernel_rfl) (by kernel_rfl) (fun _ _ _ h => h) (Or.inl ⟨by rfl, fun w' hS' => ?_⟩) (by assumption) ?_
            rotate_left
            · (try dsimp only at hS'); go_simp; (try rw [if_pos (by omega)]); try with_reducible rfl
            try simp only [Act.put, List.getElem_toArray, List.getElem_cons_zero, List.getElem_cons_succ, List.setIfInBounds_toArray, List.set_cons_zero, List.set_cons_succ]
            refine wpAnyH_take (i := 5) (v := ?_) rfl (by kernel_rfl) (by kernel_rfl) (by kernel_rfl) (fun _ _ _ h => h) (Or.inl ⟨by rfl, fun w' hS' => ?_⟩) (by assumption) ?_
            rotate_left
            · (try dsimp only at hS'); go_simp; (try rw [if_pos (by omega)]); try with_reducible rfl
            try simp only [Act.put, List.getElem_toArray, List.getElem_cons_zero, List.getElem_cons_succ, List.setIfInBounds_toArray, List.set_cons_zero, List.set_cons_succ]
            refine wpAnyH_take (i := 6) (v := ?_) rfl (by kernel_rfl) (by kernel_rfl) (by kernel_rfl) (fun _ _ _ h => h) (Or.inl ⟨by rfl, fun w' hS' => ?_⟩) (by assumption) ?_
            rotate_left
            · (try dsimp only at hS'); go_simp; (try rw [if_pos (by omega)]); try with_reducible rfl
            try simp only [Act.put, List.getElem_toArray, List.getElem_cons_zero, List.getElem_cons_succ, List.setIfInBounds_toArray, List.set_cons_zero, List.set_cons_succ]
            refine wpAnyH_take (i := 7) (v := ?_) rfl (by kernel_rfl) (by kernel_rfl) (by kernel_rfl) (fun _ _ _ h => h) (Or.inl ⟨by rfl, fun w' hS' => ?_⟩) (by assumption) ?_
            rotate_left
            · (try dsimp only at hS'); go_simp; (try rw [if_pos (by omega)]); try with_reducible rfl
            try simp only [Act.put, List.getElem_toArray, List.getElem_cons_zero, List.getElem_cons_succ, List.setIfInBounds_toArray, List.set_cons_zero, List.set_cons_succ]
            refine wpAnyH_take (i := 8) (v := ?_) rfl (by kernel_rfl) (by kernel_rfl) (by kernel_rfl) (fun _ _ _ h => h) (Or.inl ⟨by rfl, fun w' hS' => ?_⟩) (by assumption) ?_
            rotate_left
            · (try dsimp only at hS'); go_simp; (try rw [if_pos (by omega)]); try with_reducible rfl
            try simp only [Act.put, List.getElem_toArray, List.getElem_cons_zero, List.getElem_cons_succ, List.setIfInBounds_toArray, List.set_cons_zero, List.set_cons_succ]
            refine wpAnyH_take (i := 9) (v := ?_) rfl (by kernel_rfl) (by kernel_rfl) (by kernel_rfl) (fun _ _ _ h => h) (Or.inl ⟨by rfl, fun w' hS' => ?_⟩) (by assumption) ?_
            rotate_left
            · (try dsimp only at hS'); go_simp; (try rw [if_pos (by omega)]); try with_reducible rfl
            try simp only [Act.put, List.getElem_toArray, List.getElem_cons_zero, List.getElem_cons_succ, List.setIfInBounds_toArray, List.set_cons_zero, List.set_cons_succ]
            refine wpAnyH_take (i := 10) (v := ?_) rfl (by kernel_rfl) (by kernel_rfl) (by kernel_rfl) (fun _ _ _ h => h) (Or.inl ⟨by rfl, fun w' hS' => ?_⟩) (by assumption) ?_
            rotate_left
            · (try dsimp only at hS'); go_simp; (try rw [if_pos (by omega)]); try with_reducible rfl
            try simp only [Act.put, List.getElem_toArray, List.getElem_cons_zero, List.getElem_cons_succ, List.setIfInBounds_toArray, List.set_cons_zero, List.set_cons_succ]
            refine wpAnyH_take (i := 11) (v := ?_) rfl (by kernel_rfl) (by kernel_rfl) (by kernel_rfl) (fun _ _ _ h => h) (Or.inl ⟨by rfl, fun w' hS' => ?_⟩) (by assumption) ?_
            rotate_left
            · (try dsimp only at hS'); go_simp; (try rw [if_pos (by omega)]); try with_reducible rfl
            try simp only [Act.put, List.getElem_toArray, List.getElem_cons_zero, List.getElem_cons_succ, List.setIfInBounds_toArray, List.set_cons_zero, List.set_cons_succ]
            refine wpAnyH_take (i := 12) (v := ?_) rfl (by kernel_rfl) (by kernel_rfl) (by kernel_rfl) (fun _ _ _ h => h) (Or.inl ⟨by rfl, fun w' hS' => ?_⟩) (by assumption) ?_
            rotate_left
            · (try dsimp only at hS'); go_simp; (try rw [if_pos (by omega)]); try with_reducible rfl
            try simp only [Act.put, List.getElem_toArray, List.getElem_cons_zero, List.getElem_cons_succ, List.setIfInBounds_toArray, List.set_cons_zero, List.set_cons_succ]
            try rw [hwi]
            try rw [hwk]
            try rw [hwy]
            refine wpAnyH_ready (rs := [13]) (by kernel_rfl) (by simp) ?_
            refine AllReadyH.cons rfl (fun K' hK => ?_) AllReadyH.nil
            refine if_yes (by rfl) ?_
            try simp only [Act.put, List.getElem_toArray, List.getElem_cons_zero, List.getElem_cons_succ, List.setIfInBounds_toArray, List.set_cons_zero, List.set_cons_succ]
            go_simp
            obtain ⟨u3, hu3, LL, hs3, hE3⟩ := one_box d #[.int .i64 ((i : Int) + 1), .int .i64 ((k : Int) + 1), .int .i64 (-y)] 61
            rw [← hu3.out]
            have hlit : Hid (Bds u3 0 (.slice (some ⟨d.heap.size, 0, none⟩) 1 1) [(⟨(i : Int) + 1, (k : Int) + 1, -y⟩ : Bd)]) := by rw [hu3.out]; exact Lib.hid ((Bds.lit d ⟨(i : Int) + 1, (k : Int) + 1, -y⟩).base (Nat.zero_le _))
            have hheld : Hid (∀ wx, Below w1.heap.size w1 wx → wx.cell? ⟨w.heap.size, 0, none⟩ = some (Value.slice (some ⟨g1, 0, none⟩) n c1) ∧ wx.cell? ⟨g1, k, none⟩ = some (Value.int .i64 y)) := fun wx hx => ⟨(A0.ext hx).cell0 rfl, (hx.cell (by exact hg1)).trans cy4.out⟩
            have O := O.ext hE3
            have T := Lib.hid (T.out.ext hE3)
            have hb := hb.trans (hE3.mono (by have := hb.size; omega))
            have q3 := hE3.size
            clear hE3
            refine hK.out _ _ ?_ (fun hHeld => ?_)
            · exact ⟨O.cell0 rfl, (hheld.out _ hb).1, (hheld.out _ hb).2⟩
            clear hK K'
            try simp only [Act.put, List.getElem_toArray, List.getElem_cons_zero, List.getElem_cons_succ, List.setIfInBounds_toArray, List.set_cons_zero, List.set_cons_succ]
            refine wpAnyH_ready (rs := [14]) (by kernel_rfl) (by simp) ?_
            refine AllReadyH.cons rfl (fun K' hK => ?_) AllReadyH.nil
            refine if_yes (by rfl) ?_
            try simp only [Act.put, List.getElem_toArray, List.getElem_cons_zero, List.getElem_cons_succ, List.setIfInBounds_toArray, List.set_cons_zero, List.set_cons_succ]
            refine wp_appB _ (.tmp 55) (.tmp 67) rfl (w1.heap.size + 1) 0 (.slice ao tl2.length co) tl2 rfl T.out (.slice (some ⟨d.heap.size, 0, none⟩) 1 1) [(⟨(i : Int) + 1, (k : Int) + 1, -y⟩ : Bd)] rfl hlit.out (by simp; omega) (by have := O.lt; omega) ?_
            intro v9 w10 hv9 hg9
            have O := O.grown hg9 (fun e => by have := (T.out.lt _ e.symm).1; omega)
            have hb := hb.grown hg9 hb.size (fun q hq => by have := (T.out.lt q hq).1; omega)
            have T := Lib.hid hv9
            obtain ⟨a9, c9, h9e, -⟩ := hv9.open
            rw [List.length_append, List.length_singleton] at h9e
            subst h9e
            clear hg9 hv9
            refine hK.out _ _ ?_ (fun hHeld => ?_)
            · exact ⟨O.cell0 rfl, (hheld.out _ hb).1, (hheld.out _ hb).2⟩
            clear hK K'
            try simp only [Act.put, List.getElem_toArray, List.getElem_cons_zero, List.getElem_cons_succ, List.setIfInBounds_toArray, List.set_cons_zero, List.set_cons_succ]
            obtain ⟨rc1, rz1⟩ := (O).rules; have rl1 := (O).lt
            refine wpAnyH_take (i := 15) (v := ?_) rfl (by kernel_rfl) (by kernel_rfl) (by kernel_rfl) (fun _ _ _ h => h) (Or.inl ⟨by rfl, fun w' hS' => ?_⟩) (by assumption) ?_
            rotate_left
            · (try dsimp only at hS'); go_simp; (try rw [if_pos (by omega)]); try with_reducible rfl
            try simp only [Act.put, List.getElem_toArray, List.getElem_cons_zero, List.getElem_cons_succ, List.setIfInBounds_toArray, List.set_cons_zero, List.set_cons_succ]
            refine wpAnyH_done (by kernel_rfl) ?_ _
            refine tail_step rfl (fun K' hK => ?_)
            refine if_yes (by rfl) ?_
            try simp only [Act.put, List.getElem_toArray, List.getElem_cons_zero, List.getElem_cons_succ, List.setIfInBounds_toArray, List.set_cons_zero, List.set_cons_succ]
            go_simp
            refine hK _ _ ?_
            clear hK K'
            try simp only [Act.put, List.getElem_toArray, List.getElem_cons_zero, List.getElem_cons_succ, List.setIfInBounds_toArray, List.set_cons_zero, List.set_cons_succ]
            have hvs := Lib.hid (T.out.low (p := ⟨w1.heap.size, 1, none⟩) (by dsimp only; omega) (.slice a9 (tl2.length + 1) c9))
            go_wp2_with fail
            go_roundg (i - (k+1))
            case rel =>
              refine ⟨k+1, tl2 ++ [(⟨(i : Int) + 1, (k : Int) + 1, -y⟩ : Bd)], .slice a9 (tl2.length + 1) c9, by omega, rfl, by go_num, Lib.hid ?_, O.set 1 (.slice a9 (tl2.length + 1) c9), hvs, ext_set hb (by dsimp only; omega) _⟩
              rw [hpr.out, hbit.out, if_pos rfl, ← List.append_assoc, ← htl2.out]
            case measure => have := Hk.out; omega
        · have hki : k = i := by omega
          have htl3 : Hid (tl2 = (pAll p n i ++ [⟨(i : Int) + 1, 0, 0⟩]) ++ pRow p i i) := by rw [htl2.out, hki]; exact Lib.hid rfl
          have hwy : IntKind.i64.wrap (-yi) = -yi := IntWalk.i64_in _ (by omega)
          have hpa : Hid (pAll p n (i+1) = tl2 ++ [⟨(n : Int) + 1, (i : Int) + 1, -yi⟩]) := by rw [htl3.out, Hyi.out]; exact Lib.hid rfl
          have cy : wx.cell? ⟨g1, i, none⟩ = some (.int .i64 yi) := by rw [(H1.out.ext E1).cellJ' hil, Hyi.out]; rfl
          obtain ⟨rc0, rz0⟩ := (A1).rules; have rl0 := (A1).lt
          obtain ⟨rc1, rz1⟩ := (O).rules; have rl1 := (O).lt
          obtain ⟨y, hyy⟩ : ∃ y, y = yi := ⟨_, rfl⟩
          subst hyy
          have cy4 : Hid (w1.cell? ⟨g1, i, none⟩ = some (.int .i64 y)) := by rw [← (hb.cell (p := ⟨g1, i, none⟩) (by exact hg1))]; exact cy
          go_upto_region 14 with fail
          refine wp_region_tail 15 (by kernel_rfl) (by kernel_rfl) (fun w' => w'.cell? ⟨w1.heap.size, 1, none⟩ = some (.slice ao tl2.length co) ∧ w'.cell? ⟨w.heap.size, 0, none⟩ = some (Value.slice (some ⟨g1, 0, none⟩) n c1) ∧ w'.cell? ⟨g1, i, none⟩ = some (Value.int .i64 y)) ?_ ?_
          · exact ⟨O.cell0 rfl, A1.cell0 rfl, cy⟩
          intro hHeld
          obtain ⟨d, hd⟩ : ∃ d, Hid (d = wx.drew) := ⟨_, rfl⟩
          have qd : wx.heap.size ≤ d.heap.size := by rw [hd.out]; exact Nat.le_refl _
          have O := O.drew
          have T := Lib.hid T.out.drew
          have hb := ext_drew hb
          rw [← hd.out] at O T hb hHeld ⊢
          clear rc0 rz0 rl0 rc1 rz1 rl1 cy
          simp only [List.pop_toArray, List.dropLast]
          refine wpAnyH_take (i := 0) (v := ?_) rfl (by kernel_rfl) (by kernel_rfl) (by kernel_rfl) (fun _ _ _ h => h) (Or.inl ⟨by rfl, fun w' hS' => ?_⟩) (by assumption) ?_
          rotate_left
          · (try dsimp only at hS'); go_simp; (try rw [if_pos (by omega)]); try with_reducible rfl
          try simp only [Act.put, List.getElem_toArray, List.getElem_cons_zero, List.getElem_cons_succ, List.setIfInBounds_toArray, List.set_cons_zero, List.set_cons_succ]
          refine wpAnyH_take (i := 1) (v := ?_) rfl (by kernel_rfl) (by kernel_rfl) (by kernel_rfl) (fun _ _ _ h => h) (Or.inl ⟨by rfl, fun w' hS' => ?_⟩) (by assumption) ?_
          rotate_left
          · (try dsimp only at hS'); go_simp; (try rw [if_pos (by omega)]); try with_reducible rfl
          try simp only [Act.put, List.getElem_toArray, List.getElem_cons_zero, List.getElem_cons_succ, List.setIfInBounds_toArray, List.set_cons_zero, List.set_cons_succ]
          refine wpAnyH_take (i := 2) (v := ?_) rfl (by kernel_rfl) (by kernel_rfl) (by kernel_rfl) (fun _ _ _ h => h) (Or.inl ⟨by rfl, fun w' hS' => ?_⟩) (by assumption) ?_
          rotate_left
          · (try dsimp only at hS'); go_simp; (try rw [if_pos (by omega)]); try with_reducible rfl
          try simp only [Act.put, List.getElem_toArray, List.getElem_cons_zero, List.getElem_cons_succ, List.setIfInBounds_toArray, List.set_cons_zero, List.set_cons_succ]
          refine wpAnyH_take (i := 3) (v := ?_) rfl (by kernel_rfl) (by kernel_rfl) (by kernel_rfl) (fun _ _ _ h => h) (Or.inl ⟨by rfl, fun w' hS' => ?_⟩) (by assumption) ?_
          rotate_left
          · (try dsimp only at hS'); go_simp; (try rw [if_pos (by omega)]); try with_reducible rfl
          try simp only [Act.put, List.getElem_toArray, List.getElem_cons_zero, List.getElem_cons_succ, List.setIfInBounds_toArray, List.set_cons_zero, List.set_cons_succ]
          refine wpAnyH_take (i := 4) (v := ?_) rfl (by kernel_rfl) (by kernel_rfl) (by kernel_rfl) (fun _ _ _ h => h) (Or.inl ⟨by rfl, fun w' hS' => ?_⟩) (by assumption) ?_
          rotate_left
          · (try dsimp only at hS'); go_simp; (try rw [if_pos (by omega)]); try with_reducible rfl
          try simp only [Act.put, List.getElem_toArray, List.getElem_cons_zero, List.getElem_cons_succ, List.setIfInBounds_toArray, List.set_cons_zero, List.set_cons_succ]
          refine wpAnyH_take (i := 5) (v := ?_) rfl (by kernel_rfl) (by kernel_rfl) (by kernel_rfl) (fun _ _ _ h => h) (Or.inl ⟨by rfl, fun w' hS' => ?_⟩) (by assumption) ?_
          rotate_left
          · (try dsimp only at hS'); go_simp; (try rw [if_pos (by omega)]); try with_reducible rfl
          try simp only [Act.put, List.getElem_toArray, List.getElem_cons_zero, List.getElem_cons_succ, List.setIfInBounds_toArray, List.set_cons_zero, List.set_cons_succ]
          refine wpAnyH_take (i := 6) (v := ?_) rfl (by kernel_rfl) (by kernel_rfl) (by kernel_rfl) (fun _ _ _ h => h) (Or.inl ⟨by rfl, fun w' hS' => ?_⟩) (by assumption) ?_
          rotate_left
          · (try dsimp only at hS'); go_simp; (try rw [if_pos (by omega)]); try with_reducible rfl
          try simp only [Act.put, List.getElem_toArray, List.getElem_cons_zero, List.getElem_cons_succ, List.setIfInBounds_toArray, List.set_cons_zero, List.set_cons_succ]
          refine wpAnyH_take (i := 7) (v := ?_) rfl (by kernel_rfl) (by kernel_rfl) (by kernel_rfl) (fun _ _ _ h => h) (Or.inl ⟨by rfl, fun w' hS' => ?_⟩) (by assumption) ?_
          rotate_left
          · (try dsimp only at hS'); go_simp; (try rw [if_pos (by omega)]); try with_reducible rfl
          try simp only [Act.put, List.getElem_toArray, List.getElem_cons_zero, List.getElem_cons_succ, List.setIfInBounds_toArray, List.set_cons_zero, List.set_cons_succ]
          refine wpAnyH_take (i := 8) (v := ?_) rfl (by kernel_rfl) (by kernel_rfl) (by kernel_rfl) (fun _ _ _ h => h) (Or.inl ⟨by rfl, fun w' hS' => ?_⟩) (by assumption) ?_
          rotate_left
          · (try dsimp only at hS'); go_simp; (try rw [if_pos (by omega)]); try with_reducible rfl
          try simp only [Act.put, List.getElem_toArray, List.getElem_cons_zero, List.getElem_cons_succ, List.setIfInBounds_toArray, List.set_cons_zero, List.set_cons_succ]
          refine wpAnyH_take (i := 9) (v := ?_) rfl (by kernel_rfl) (by kernel_rfl) (by kernel_rfl) (fun _ _ _ h => h) (Or.inl ⟨by rfl, fun w' hS' => ?_⟩) (by assumption) ?_
          rotate_left
          · (try dsimp only at hS'); go_simp; (try rw [if_pos (by omega)]); try with_reducible rfl
          try simp only [Act.put, List.getElem_toArray, List.getElem_cons_zero, List.getElem_cons_succ, List.setIfInBounds_toArray, List.set_cons_zero, List.set_cons_succ]
          refine wpAnyH_take (i := 10) (v := ?_) rfl (by kernel_rfl) (by kernel_rfl) (by kernel_rfl) (fun _ _ _ h => h) (Or.inl ⟨by rfl, fun w' hS' => ?_⟩) (by assumption) ?_
          rotate_left
          · (try dsimp only at hS'); go_simp; (try rw [if_pos (by omega)]); try with_reducible rfl
          try simp only [Act.put, List.getElem_toArray, List.getElem_cons_zero, List.getElem_cons_succ, List.setIfInBounds_toArray, List.set_cons_zero, List.set_cons_succ]
          refine wpAnyH_take (i := 11) (v := ?_) rfl (by kernel_rfl) (by kernel_rfl) (by kernel_rfl) (fun _ _ _ h => h) (Or.inl ⟨by rfl, fun w' hS' => ?_⟩) (by assumption) ?_
          rotate_left
          · (try dsimp only at hS'); go_simp; (try rw [if_pos (by omega)]); try with_reducible rfl
          try simp only [Act.put, List.getElem_toArray, List.getElem_cons_zero, List.getElem_cons_succ, List.setIfInBounds_toArray, List.set_cons_zero, List.set_cons_succ]
          try rw [hwi]
          try rw [hwy]
          refine wpAnyH_ready (rs := [12]) (by kernel_rfl) (by simp) ?_
          refine AllReadyH.cons rfl (fun K' hK => ?_) AllReadyH.nil
          refine if_yes (by rfl) ?_
          try simp only [Act.put, List.getElem_toArray, List.getElem_cons_zero, List.getElem_cons_succ, List.setIfInBounds_toArray, List.set_cons_zero, List.set_cons_succ]
          go_simp
          obtain ⟨u3, hu3, LL, hs3, hE3⟩ := one_box d #[.int .i64 ((n : Int) + 1), .int .i64 ((i : Int) + 1), .int .i64 (-y)] 61
          rw [← hu3.out]
          have hlit : Hid (Bds u3 0 (.slice (some ⟨d.heap.size, 0, none⟩) 1 1) [(⟨(n : Int) + 1, (i : Int) + 1, -y⟩ : Bd)]) := by rw [hu3.out]; exact Lib.hid ((Bds.lit d ⟨(n : Int) + 1, (i : Int) + 1, -y⟩).base (Nat.zero_le _))
          have hheld : Hid (∀ wx, Below w1.heap.size w1 wx → wx.cell? ⟨w.heap.size, 0, none⟩ = some (Value.slice (some ⟨g1, 0, none⟩) n c1) ∧ wx.cell? ⟨g1, i, none⟩ = some (Value.int .i64 y)) := fun wx hx => ⟨(A0.ext hx).cell0 rfl, (hx.cell (by exact hg1)).trans cy4.out⟩
          have O := O.ext hE3
          have T := Lib.hid (T.out.ext hE3)
          have hb := hb.trans (hE3.mono (by have := hb.size; omega))
          have q3 := hE3.size
          clear hE3
          refine hK.out _ _ ?_ (fun hHeld => ?_)
          · exact ⟨O.cell0 rfl, (hheld.out _ hb).1, (hheld.out _ hb).2⟩
          clear hK K'
          try simp only [Act.put, List.getElem_toArray, List.getElem_cons_zero, List.getElem_cons_succ, List.setIfInBounds_toArray, List.set_cons_zero, List.set_cons_succ]
          refine wpAnyH_ready (rs := [13]) (by kernel_rfl) (by simp) ?_
          refine AllReadyH.cons rfl (fun K' hK => ?_) AllReadyH.nil
          refine if_yes (by rfl) ?_
          try simp only [Act.put, List.getElem_toArray, List.getElem_cons_zero, List.getElem_cons_succ, List.setIfInBounds_toArray, List.set_cons_zero, List.set_cons_succ]
          refine wp_appB _ (.tmp 71) (.tmp 82) rfl (w1.heap.size + 1) 0 (.slice ao tl2.length co) tl2 rfl T.out (.slice (some ⟨d.heap.size, 0, none⟩) 1 1) [(⟨(n : Int) + 1, (i : Int) + 1, -y⟩ : Bd)] rfl hlit.out (by simp; omega) (by have := O.lt; omega) ?_
          intro v9 w10 hv9 hg9
          have O := O.grown hg9 (fun e => by have := (T.out.lt _ e.symm).1; omega)
          have hb := hb.grown hg9 hb.size (fun q hq => by have := (T.out.lt q hq).1; omega)
          have T := Lib.hid hv9
          obtain ⟨a9, c9, h9e, -⟩ := hv9.open
          rw [List.length_append, List.length_singleton] at h9e
          subst h9e
          clear hg9 hv9
          refine hK.out _ _ ?_ (fun hHeld => ?_)
          · exact ⟨O.cell0 rfl, (hheld.out _ hb).1, (hheld.out _ hb).2⟩
          clear hK K'
          try simp only [Act.put, List.getElem_toArray, List.getElem_cons_zero, List.getElem_cons_succ, List.setIfInBounds_toArray, List.set_cons_zero, List.set_cons_succ]
          obtain ⟨rc1, rz1⟩ := (O).rules; have rl1 := (O).lt
          refine wpAnyH_take (i := 14) (v := ?_) rfl (by kernel_rfl) (by kernel_rfl) (by kernel_rfl) (fun _ _ _ h => h) (Or.inl ⟨by rfl, fun w' hS' => ?_⟩) (by assumption) ?_
          rotate_left
          · (try dsimp only at hS'); go_simp; (try rw [if_pos (by omega)]); try with_reducible rfl
          try simp only [Act.put, List.getElem_toArray, List.getElem_cons_zero, List.getElem_cons_succ, List.setIfInBounds_toArray, List.set_cons_zero, List.set_cons_succ]
          refine wpAnyH_done (by kernel_rfl) ?_ _
          refine tail_step rfl (fun K' hK => ?_)
          refine if_yes (by rfl) ?_
          try simp only [Act.put, List.getElem_toArray, List.getElem_cons_zero, List.getElem_cons_succ, List.setIfInBounds_toArray, List.set_cons_zero, List.set_cons_succ]
          go_simp
          refine hK _ _ ?_
          clear hK K'
          try simp only [Act.put, List.getElem_toArray, List.getElem_cons_zero, List.getElem_cons_succ, List.setIfInBounds_toArray, List.set_cons_zero, List.set_cons_succ]
          have hvs := Lib.hid (T.out.low (p := ⟨w1.heap.size, 1, none⟩) (by dsimp only; omega) (.slice a9 (tl2.length + 1) c9))
          go_wp2_with fail
          go_roundg (n - (i+1))
          case rel =>
            refine ⟨i+1, tl2 ++ [(⟨(n : Int) + 1, (i : Int) + 1, -y⟩ : Bd)], .slice a9 (tl2.length + 1) c9, by omega, rfl, by go_num, Lib.hid hpa.out.symm, O.set 1 (.slice a9 (tl2.length + 1) c9), hvs, ext_set hb (by dsimp only; omega) _⟩
          case measure => have := Hi.out; omega
    · have hin : i = n := by omega
      have hall : Hid (tl = p.asPl.bs) := by rw [htl.out, hin]; unfold Pj.asPl; rw [← hn.out]; exact Lib.hid rfl
      clear hin htl
      rw [hall.out] at T O
      obtain ⟨P, hP⟩ : ∃ P, Hid (P = p.asPl) := ⟨_, rfl⟩
      have hPp : Hid (P.pts = (n : Int) + 2) := by rw [hP.out, hn.out]; exact Lib.hid rfl
      have hPl : P.bs.length ≤ 40 := by rw [hP.out]; show (pAll p p.lo.length p.lo.length).length ≤ 40; rw [← hn.out]; have := pAll_length p n n (by omega); omega
      rw [← hP.out] at T O Hk Hk2
      rw [← hPp.out] at O
      clear hall
      obtain ⟨rc1, rz1⟩ := (O).rules; have rl1 := (O).lt
      go_wp2_with fail
      refine (spec_PlanOk P _ _ (T.out.base (Nat.zero_le _))).mono ?_
      rintro e w6 ⟨rfl, hb6⟩
      have O := O.ext hb6
      have T := Lib.hid (T.out.ext hb6)
      have hb := ext_trans hb hb6
      have R1 := R.ext hb
      have E1 := ext_trans E hb
      clear rc0 rz0 rl0 rc1 rz1 rl1 hb6
      obtain ⟨rc1, rz1⟩ := (O).rules; have rl1 := (O).lt
      obtain ⟨rc2, rz2⟩ := (R1).rules; have rl2 := (R1).lt
      cases hok : P.ok
      · have Hz : Hid (P.told = Pl.zero) := Lib.hid (if_neg (by rw [hok]; simp))
        have Hk3 : Hid (p.planOk = false) := by rw [Hk.out, hok]; exact Lib.hid rfl
        clear hok
        go_wp2_with fail
        refine bodyPost_ret (v := .tuple #[.agg #[.int .i64 0, .slice none 0 0], .bool false]) (by simp [results, Try.results41, go_sem, *]) rfl ?_
        rw [Hk3.out, Hk2.out, Hz.out]
        exact ⟨_, rfl, Bds.nil _ _, ext_set (ext_set E1 (by dsimp only; omega) _) (by dsimp only; omega) _⟩
      · have Hz : Hid (P.told = P) := Lib.hid (if_pos hok)
        have Hk3 : Hid (p.planOk = true) := by rw [Hk.out, hok]; exact Lib.hid rfl
        clear hok
        go_wp2_with fail
        refine bodyPost_ret (v := .tuple #[.agg #[.int .i64 P.pts, .slice ao P.bs.length co], .bool true]) (by simp [results, Try.results41, go_sem, *]) rfl ?_
        rw [Hk3.out, Hk2.out, Hz.out]
        refine ⟨_, rfl, ?_, ext_set (ext_set E1 (by dsimp only; omega) _) (by dsimp only; omega) _⟩
        have h1 := T.out.low (p := ⟨w.heap.size + 1, 0, none⟩) (by dsimp only; omega) (.int .i64 P.pts)
        have h2 := h1.low (p := ⟨w.heap.size + 1, 1, none⟩) (by dsimp only; omega) (.slice ao P.bs.length co)
        exact h2.base (by omega)
end Go.Proofs.Ytllicgomlohffaa
