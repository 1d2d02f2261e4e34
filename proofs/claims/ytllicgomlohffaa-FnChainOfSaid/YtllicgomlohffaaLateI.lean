/- The walk of impl.LateOf, and of spec.LateOf. Conditions: the numbers can be read. -/
import Derived.Test.YtllicgomlohffaaLate
namespace Go.Proofs.Ytllicgomlohffaa
open Go.RowKit
set_option linter.unusedVariables false
set_option linter.unusedSimpArgs false
/-- the row of latest begins, those from z on found; of task z - 1 the first q tasks behind it looked at -/
def lateMid (p : Pj) (n z q : Nat) : List Int := rowOf n fun j => if j < z then (if j + 1 = z then lateDown p.A (tOf p) p.len j z q - p.L j else 0) else tOf p j
def lateAt (p : Pj) (n z : Nat) : List Int := rowOf n fun j => if j < z then 0 else tOf p j
theorem lateMid_length (p : Pj) (n z q : Nat) : (lateMid p n z q).length = n := rowOf_length _ _
theorem lateMid_me (p : Pj) (n i q : Nat) (h : i < n) : (lateMid p n (i+1) q).getD i 0 = lateDown p.A (tOf p) p.len i (i+1) q - p.L i := by
  rw [lateMid, rowOf_getD _ _ _ h, if_pos (by omega), if_pos rfl]
theorem lateMid_up (p : Pj) (n z q j : Nat) (h : j < n) (hz : z ≤ j) : (lateMid p n z q).getD j 0 = tOf p j := by
  rw [lateMid, rowOf_getD _ _ _ h, if_neg (by omega)]
theorem lateMid_begin (p : Pj) (n i : Nat) : (lateAt p n (i+1)).set i (p.len - p.L i) = lateMid p n (i+1) 0 := by
  rw [lateAt, rowOf_set]
  refine rowOf_congr _ _ _ fun j hj => ?_
  by_cases h : j = i
  · subst h; rw [if_pos rfl, if_pos (by omega), if_pos rfl]; rfl
  · rw [if_neg h]
    by_cases h2 : j < i + 1
    · rw [if_pos h2, if_pos h2, if_neg (by omega)]
    · rw [if_neg h2, if_neg h2]
theorem lateMid_next (p : Pj) (n i q : Nat) (hb : bit (p.A (i+1+q)) i = true) :
    (lateMid p n (i+1) q).set i (min (lateDown p.A (tOf p) p.len i (i+1) q - p.L i) (tOf p (i+1+q) - p.L i)) = lateMid p n (i+1) (q+1) := by
  rw [lateMid, rowOf_set]
  refine rowOf_congr _ _ _ fun j hj => ?_
  by_cases h : j = i
  · subst h
    rw [if_pos rfl, if_pos (by omega), if_pos rfl]
    conv => rhs; unfold lateDown
    rw [if_pos hb]
    omega
  · rw [if_neg h]
    by_cases h2 : j < i + 1
    · rw [if_pos h2, if_pos h2, if_neg (by omega), if_neg (by omega)]
    · rw [if_neg h2, if_neg h2]
theorem lateMid_skip (p : Pj) (n i q : Nat) (hb : bit (p.A (i+1+q)) i = false) : lateMid p n (i+1) (q+1) = lateMid p n (i+1) q := by
  refine rowOf_congr _ _ _ fun j hj => ?_
  by_cases h2 : j < i + 1
  · rw [if_pos h2, if_pos h2]
    by_cases h3 : j + 1 = i + 1
    · obtain rfl : j = i := by omega
      rw [if_pos rfl, if_pos rfl]
      conv => lhs; unfold lateDown
      rw [if_neg (by simp [hb])]
    · rw [if_neg h3, if_neg h3]
  · rw [if_neg h2, if_neg h2]
theorem lateMid_full (p : Pj) (n i : Nat) (hn : n = p.lo.length) (hi : i < n) : lateMid p n (i+1) (n - (i+1)) = lateAt p n i := by
  refine rowOf_congr _ _ _ fun j hj => ?_
  by_cases h2 : j < i + 1
  · rw [if_pos h2]
    by_cases h3 : j = i
    · subst h3
      have hL := late_is p
      rw [← hn] at hL
      rw [if_pos rfl, if_neg (Nat.lt_irrefl _), lateDown_eq hL hi]
      omega
    · rw [if_neg (by omega), if_pos (by omega)]
  · rw [if_neg h2, if_neg (by omega)]
theorem lateAt_zero (p : Pj) (n : Nat) : lateAt p n n = List.replicate n 0 := by
  unfold lateAt rowOf
  apply List.ext_getElem (by simp)
  intro j h1 h2
  simp at h1
  simp [h1]
theorem lateAt_all (p : Pj) : lateAt p p.lo.length 0 = p.late := by
  rw [← late_row]
  exact rowOf_congr _ _ _ fun j hj => if_neg (Nat.not_lt_zero _)
set_option maxRecDepth 100000 in
set_option maxHeartbeats 8000000 in
theorem impl_LateOf (p : Pj) (v1 v2 : Value) (w : World) (h1 : Ints w 0 v1 p.lo) (h2 : Ints w 0 v2 p.af) :
    Calls Try.prog 31 #[.agg #[v1, v2]] w (RetInts w p.lateOf) := by
  have H1 := Lib.hid h1; have H2 := Lib.hid h2
  obtain ⟨a1, c1, rfl, hn1, hc1, -⟩ := h1.open
  obtain ⟨a2, c2, rfl, hn2, hc2, -⟩ := h2.open
  clear h1 h2
  obtain ⟨n, hn⟩ : ∃ n, Hid (n = p.lo.length) := ⟨_, rfl⟩
  rw [← hn.out] at hn1 ⊢
  obtain ⟨i0, hi, hz0, hz1, hz2⟩ := info_parts info_int
  have Hi := Lib.hid hi; have Hz0 := Lib.hid hz0; have Hz1 := Lib.hid hz1; have Hz2 := Lib.hid hz2
  clear hi hz0 hz1 hz2
  go_enter Try.func31, Try.ntmps31
  go_wp2_with fail
  obtain ⟨W, hW, A0, hs, E⟩ := one_box w #[.slice a1 n c1, .slice a2 p.af.length c2] 27
  rw [← hW.out]
  refine (impl_ProjectOk p (.slice a1 n c1) (.slice a2 p.af.length c2) _ (by have := H1.out.ext E; rw [hn.out]; exact this) (H2.out.ext E)).mono ?_
  rintro e w1 ⟨rfl, hb1⟩
  have A0 := A0.ext hb1
  have E := ext_trans E hb1
  have q1 := hb1.size
  clear hb1
  obtain ⟨rc0, rz0⟩ := (A0).rules; have rl0 := (A0).lt
  cases hok : p.ok
  · have Hok := Lib.hid hok
    clear hok
    go_wp2_with fail
    go_ret
    exact ⟨_, rfl, by rw [show p.lateOf = [] from if_neg (by simp [Hok.out])]; exact Ints.nil _ _, E⟩
  have Hok := Lib.hid hok
  obtain ⟨hl6, haf, hLs, hAs⟩ := ok_upto hok
  have HLs := Lib.hid hLs; have HAs := Lib.hid hAs
  have hlen := len_in hok
  have Hlate := Lib.hid (late_in hok)
  have haf2 : Hid (p.af.length = n) := by rw [hn.out]; exact haf
  have Hdown : Hid (∀ i q, i + 1 + q ≤ n → 0 ≤ lateDown p.A (tOf p) p.len i (i+1) q ∧ lateDown p.A (tOf p) p.len i (i+1) q ≤ 140) := fun i q h =>
    ⟨lateDown_pos hlen.1 (fun j hj => (Hlate.out j (by rw [← hn.out]; exact hj)).1) q h, by have := lateDown_top p.A (tOf p) p.len i (i+1) q; omega⟩
  rw [← hn.out] at hl6
  clear hok haf hLs hAs
  go_wp2_with (at_make; refine wpList_make_full _ rfl (.tmp 11) (.tmp 11) 22 rfl w.heap.size 3 i0 _ 1 Try.underlying22 Hi.out Hz0.out Hz1.out .i64 .i64 n n n rfl rfl rfl rfl (by rw [Hz2.out]; omega) (by unfold maxLen; omega) (by omega) ?_; intro w2 hown hgrow)
  have A0 := A0.grown hgrow (by simp)
  have E := ext_grown E hgrow (by simp)
  have R : Hid (Ints w2 w.heap.size (.slice (some ⟨w1.heap.size, 0, none⟩) n n) (lateAt p n n)) := by
    show Ints _ _ _ _
    unfold Ints
    rw [lateAt_zero, ← ints_made, List.length_replicate]
    exact hown
  have hz1 := hgrow.size
  clear hown hgrow rc0 rz0 rl0
  go_loopg [4] n (fun m kk wr => ∃ z : Nat, z ≤ n ∧ m = z ∧ kk = .int .i64 ((z : Int) - 1) ∧ Hid (Ints wr w.heap.size (.slice (some ⟨w1.heap.size, 0, none⟩) n n) (lateAt p n z)) ∧
    Box wr w.heap.size 27 #[.slice a1 n c1, .slice a2 p.af.length c2] ∧ Below w.heap.size w wr)
  case atStart => exact ⟨n, by omega, rfl, rfl, R, A0, E⟩
  case round =>
    clear R A0 E
    obtain ⟨z, hz, hgk, rfl, R, A0, E⟩ := hrel
    have Hk := Lib.hid hgk
    clear hgk
    obtain ⟨rc0, rz0⟩ := (A0).rules; have rl0 := (A0).lt
    by_cases hlz : 0 < z
    · obtain ⟨i, rfl⟩ : ∃ i, z = i + 1 := ⟨z - 1, by omega⟩
      rw [show ((i + 1 : Nat) : Int) - 1 = (i : Int) by omega]
      have hin : i < n := by omega
      have hin2 : i < p.lo.length := by rw [← hn.out]; exact hin
      obtain ⟨g1, ha1, _, hg1, _, cy⟩ := (H1.out.ext E).at_ hin2
      subst ha1
      have hrl : (lateAt p n (i+1)).length = n := rowOf_length _ _
      obtain ⟨_, hae, _, hge, hfz, cx⟩ := R.out.at_ (j := i) (by omega)
      cases hae
      have hy := HLs.out i hin2
      obtain ⟨y, Hy⟩ : ∃ y, Hid (y = p.L i) := ⟨_, rfl⟩
      rw [show p.lo.getD i 0 = y from Hy.out.symm] at cy
      rw [← Hy.out] at hy
      go_wp2_with fail
      refine wp_region_tail 11 (by kernel_rfl) (by kernel_rfl) (fun w' => w'.cell? ⟨w.heap.size, 0, none⟩ = some (.slice (some ⟨g1, 0, none⟩) n c1) ∧ w'.cell? ⟨w.heap.size, 1, none⟩ = some (.slice a2 p.af.length c2) ∧ w'.cell? ⟨g1, i, none⟩ = some (.int .i64 y)) ?_ ?_
      · exact ⟨A0.cell0 rfl, A0.cell0 rfl, cy⟩
      intro hHeld
      have R := Lib.hid R.out.drew
      have A0 := A0.drew
      have E := ext_drew E
      obtain ⟨d, hd⟩ : ∃ d, Hid (d = wr.drew) := ⟨_, rfl⟩
      have cyd : d.cell? ⟨g1, i, none⟩ = some (.int .i64 y) := by rw [hd.out]; exact cy
      have hgd : g1 < d.heap.size := by rw [hd.out]; exact hg1
      rw [← hd.out] at R A0 E hHeld ⊢
      simp only [List.pop_toArray, List.dropLast]
      refine wpAnyH_take (i := 0) (v := ?_) rfl (by kernel_rfl) (by kernel_rfl) (by kernel_rfl) (fun _ _ _ h => h) (Or.inl ⟨by rfl, fun w' hS' => ?_⟩) (by assumption) ?_
      rotate_left
      · (try dsimp only at hS'); go_simp; (try rw [if_pos (by omega)]); try with_reducible rfl
      try simp only [Act.put, List.getElem_toArray, List.getElem_cons_zero, List.getElem_cons_succ, List.setIfInBounds_toArray, List.set_cons_zero, List.set_cons_succ]
      refine wpAnyH_take (i := 1) (v := ?_) rfl (by kernel_rfl) (by kernel_rfl) (by kernel_rfl) (fun _ _ _ h => h) (Or.inl ⟨by rfl, fun w' hS' => ?_⟩) (by assumption) ?_
      rotate_left
      · (try dsimp only at hS'); go_simp; (try rw [if_pos (by omega)]); try with_reducible rfl
      try simp only [Act.put, List.getElem_toArray, List.getElem_cons_zero, List.getElem_cons_succ, List.setIfInBounds_toArray, List.set_cons_zero, List.set_cons_succ]
      refine wpAnyH_take (i := 2) (v := ?_) rfl (by kernel_rfl) (by kernel_rfl) (by kernel_rfl) (fun _ _ _ h => h) (Or.inl ⟨by rfl, fun w' hS' => ?_⟩) (by assumption) ?_
      rotate_left
      · (try dsimp only at hS'); go_simp; (try rw [if_pos (by omega)]); try with_reducible rfl
      try simp only [Act.put, List.getElem_toArray, List.getElem_cons_zero, List.getElem_cons_succ, List.setIfInBounds_toArray, List.set_cons_zero, List.set_cons_succ]
      refine wpAnyH_take (i := 4) (v := ?_) rfl (by kernel_rfl) (by kernel_rfl) (by kernel_rfl) (fun _ _ _ h => h) (Or.inl ⟨by rfl, fun w' hS' => ?_⟩) (by assumption) ?_
      rotate_left
      · (try dsimp only at hS'); go_simp; (try rw [if_pos (by omega)]); try with_reducible rfl
      try simp only [Act.put, List.getElem_toArray, List.getElem_cons_zero, List.getElem_cons_succ, List.setIfInBounds_toArray, List.set_cons_zero, List.set_cons_succ]
      refine wpAnyH_take (i := 5) (v := ?_) rfl (by kernel_rfl) (by kernel_rfl) (by kernel_rfl) (fun _ _ _ h => h) (Or.inl ⟨by rfl, fun w' hS' => ?_⟩) (by assumption) ?_
      rotate_left
      · (try dsimp only at hS'); go_simp; (try rw [if_pos (by omega)]); try with_reducible rfl
      try simp only [Act.put, List.getElem_toArray, List.getElem_cons_zero, List.getElem_cons_succ, List.setIfInBounds_toArray, List.set_cons_zero, List.set_cons_succ]
      refine wpAnyH_take (i := 6) (v := ?_) rfl (by kernel_rfl) (by kernel_rfl) (by kernel_rfl) (fun _ _ _ h => h) (Or.inl ⟨by rfl, fun w' hS' => ?_⟩) (by assumption) ?_
      rotate_left
      · (try dsimp only at hS'); go_simp; (try rw [if_pos (by omega)]); try with_reducible rfl
      try simp only [Act.put, List.getElem_toArray, List.getElem_cons_zero, List.getElem_cons_succ, List.setIfInBounds_toArray, List.set_cons_zero, List.set_cons_succ]
      refine wpAnyH_take (i := 7) (v := ?_) rfl (by kernel_rfl) (by kernel_rfl) (by kernel_rfl) (fun _ _ _ h => h) (Or.inl ⟨by rfl, fun w' hS' => ?_⟩) (by assumption) ?_
      rotate_left
      · (try dsimp only at hS'); go_simp; (try rw [if_pos (by omega)]); try with_reducible rfl
      try simp only [Act.put, List.getElem_toArray, List.getElem_cons_zero, List.getElem_cons_succ, List.setIfInBounds_toArray, List.set_cons_zero, List.set_cons_succ]
      refine wpAnyH_take (i := 8) (v := ?_) rfl (by kernel_rfl) (by kernel_rfl) (by kernel_rfl) (fun _ _ _ h => h) (Or.inl ⟨by rfl, fun w' hS' => ?_⟩) (by assumption) ?_
      rotate_left
      · (try dsimp only at hS'); go_simp; (try rw [if_pos (by omega)]); try with_reducible rfl
      try simp only [Act.put, List.getElem_toArray, List.getElem_cons_zero, List.getElem_cons_succ, List.setIfInBounds_toArray, List.set_cons_zero, List.set_cons_succ]
      refine wpAnyH_ready (rs := [3]) (by kernel_rfl) (by simp) ?_
      refine AllReadyH.cons rfl (fun K' hK => ?_) AllReadyH.nil
      refine if_yes (by rfl) ?_
      try simp only [Act.put, List.getElem_toArray, List.getElem_cons_zero, List.getElem_cons_succ, List.setIfInBounds_toArray, List.set_cons_zero, List.set_cons_succ]
      go_simp
      refine (impl_LengthOf p (.slice (some ⟨g1, 0, none⟩) n c1) (.slice a2 p.af.length c2) _ (by have := H1.out.ext E; rw [hn.out]; exact this) (H2.out.ext E)).mono ?_
      rintro e w3 ⟨rfl, hb3⟩
      rw [show p.lenOf = p.len from if_pos Hok.out]
      obtain ⟨ln, Hln⟩ : ∃ x, Hid (x = p.len) := ⟨_, rfl⟩
      rw [← Hln.out]
      have hln : 0 ≤ ln ∧ ln ≤ 140 := by rw [Hln.out]; exact hlen
      have R := Lib.hid (R.out.ext hb3)
      have A0 := A0.ext hb3
      have E := ext_trans E hb3
      have cyd := (hb3.cell (by exact hgd)).trans cyd
      clear hb3 rc0 rz0 rl0
      go_wp2_with fail
      refine hK.out _ _ ?_ (fun hHeld => ?_)
      · exact ⟨A0.cell0 rfl, A0.cell0 rfl, cyd⟩
      clear hK K'
      try simp only [Act.put, List.getElem_toArray, List.getElem_cons_zero, List.getElem_cons_succ, List.setIfInBounds_toArray, List.set_cons_zero, List.set_cons_succ]
      have hw : IntKind.i64.wrap (ln - y) = ln - y := IntWalk.i64_in _ (by omega)
      obtain ⟨_, hae, _, hge, hfz, cx⟩ := R.out.at_ (j := i) (by omega)
      cases hae
      refine wpAnyH_take (i := 9) (v := ?_) rfl (by kernel_rfl) (by kernel_rfl) (by kernel_rfl) (fun _ _ _ h => h) (Or.inl ⟨by rfl, fun w' hS' => ?_⟩) (by assumption) ?_
      rotate_left
      · (try dsimp only at hS'); go_simp; (try rw [if_pos (by omega)]); try with_reducible rfl
      try simp only [Act.put, List.getElem_toArray, List.getElem_cons_zero, List.getElem_cons_succ, List.setIfInBounds_toArray, List.set_cons_zero, List.set_cons_succ]
      refine wpAnyH_take (i := 10) (v := ?_) rfl (by kernel_rfl) (by kernel_rfl) (by kernel_rfl) (fun _ _ _ h => h) (Or.inl ⟨by rfl, fun w' hS' => ?_⟩) (by assumption) ?_
      rotate_left
      · (try dsimp only at hS'); go_simp; (try rw [if_pos (by omega)]); try with_reducible rfl
      try simp only [Act.put, List.getElem_toArray, List.getElem_cons_zero, List.getElem_cons_succ, List.setIfInBounds_toArray, List.set_cons_zero, List.set_cons_succ]
      try rw [hw]
      refine wpAnyH_done (by kernel_rfl) ?_ _
      refine tail_step rfl (fun K' hK => ?_)
      refine if_yes (by rfl) ?_
      try simp only [Act.put, List.getElem_toArray, List.getElem_cons_zero, List.getElem_cons_succ, List.setIfInBounds_toArray, List.set_cons_zero, List.set_cons_succ]
      go_simp
      refine hK _ _ ?_
      clear hK K'
      try simp only [Act.put, List.getElem_toArray, List.getElem_cons_zero, List.getElem_cons_succ, List.setIfInBounds_toArray, List.set_cons_zero, List.set_cons_succ]
      have R2 : Hid (Ints (w3.setCell ⟨w1.heap.size, i, none⟩ (.int .i64 (ln - y))) w.heap.size (.slice (some ⟨w1.heap.size, 0, none⟩) n n) (lateMid p n (i+1) 0)) := by
        rw [← lateMid_begin p n i, ← Hln.out, ← Hy.out]; exact Lib.hid (R.out.set i (ln - y))
      have A2 := A0.far (p := ⟨w1.heap.size, i, none⟩) (by dsimp only; omega) (.int .i64 (ln - y))
      have E2 := ext_set E (p := ⟨w1.heap.size, i, none⟩) (by dsimp only; omega) (.int .i64 (ln - y))
      obtain ⟨w4, hw4⟩ : ∃ w4, Hid (w4 = w3.setCell ⟨w1.heap.size, i, none⟩ (.int .i64 (ln - y))) := ⟨_, rfl⟩
      rw [← hw4.out] at R2 A2 E2 ⊢
      clear R A0 E cx cy cyd hHeld
      go_wp2_with fail
      go_loopg [5] (n - (i+1)) (fun m kk wx => ∃ q : Nat, i + 1 + q ≤ n ∧ m = n - (i+1+q) ∧ kk = .int .i64 ((i : Int) + 1 + q) ∧ Hid (Ints wx w.heap.size (.slice (some ⟨w1.heap.size, 0, none⟩) n n) (lateMid p n (i+1) q)) ∧
        Box wx w.heap.size 27 #[.slice (some ⟨g1, 0, none⟩) n c1, .slice a2 p.af.length c2] ∧ Below w.heap.size w wx)
      case atStart => exact ⟨0, by omega, by omega, by simp, R2, A2, E2⟩
      case round =>
        clear R2 A2 E2
        rename World => wx
        obtain ⟨q, hq, hgk, rfl, R, A0, E⟩ := hrel
        have Hq := Lib.hid hgk
        clear hgk
        obtain ⟨rc0, rz0⟩ := (A0).rules; have rl0 := (A0).lt
        by_cases hlq : i + 1 + q < n
        · have hkk : ((i : Int) + 1 + q) = ((i + 1 + q : Nat) : Int) := by omega
          rw [hkk]
          clear hkk
          obtain ⟨k, hk⟩ : ∃ k, k = i + 1 + q := ⟨_, rfl⟩
          have Hkq := Lib.hid hk
          rw [← hk] at hlq ⊢
          clear hk
          have hkn2 : k < p.lo.length := by rw [← hn.out]; exact hlq
          have hAk := HAs.out k hkn2
          have hA1 : p.A k ≤ 1048576 := by have := two_pow_in k (by omega); omega
          have hik : i < k := by have := Hkq.out; omega
          go_wp2_with fail
          refine (impl_after p (.slice (some ⟨g1, 0, none⟩) n c1) (.slice a2 p.af.length c2) k i _ (by have := H1.out.ext E; rw [hn.out]; exact this) (H2.out.ext E) (by have := haf2.out; omega) (by omega) ⟨hAk.1, hA1⟩).mono ?_
          rintro e w5 ⟨rfl, hb5⟩
          have R := Lib.hid (R.out.ext hb5)
          have A0 := A0.ext hb5
          have E := ext_trans E hb5
          clear hb5 rc0 rz0 rl0 hAk hA1
          cases hb : bit (p.A k) i
          · have Hb := Lib.hid hb
            clear hb
            go_wp2_with fail
            go_roundg (n - (i+1+(q+1)))
            case rel =>
              refine ⟨q+1, by have := Hkq.out; omega, rfl, by have := Hkq.out; go_num, ?_, A0, E⟩
              rw [lateMid_skip p n i q (by rw [← Hkq.out]; exact Hb.out)]
              exact R
            case measure => have := Hq.out; have := Hkq.out; omega
          · have Hb2 : Hid (bit (p.A (i+1+q)) i = true) := by rw [← Hkq.out]; exact Lib.hid hb
            clear hb
            have hml := lateMid_length p n (i+1) q
            obtain ⟨_, hae, _, hge, hfz, ci⟩ := R.out.at_ (j := i) (by omega)
            cases hae
            obtain ⟨_, hae, _, _, _, ck⟩ := R.out.at_ (j := k) (by omega)
            cases hae
            obtain ⟨_, hae, _, hg1, _, cy⟩ := (H1.out.ext E).at_ hin2
            cases hae
            rw [lateMid_me p n i q hin] at ci
            rw [lateMid_up p n (i+1) q k hlq (by omega)] at ck
            rw [show p.lo.getD i 0 = y from Hy.out.symm] at cy
            have hx := Hdown.out i q (by have := Hkq.out; omega)
            have hu := Hlate.out k hkn2
            obtain ⟨x, Hx⟩ : ∃ x, Hid (x = lateDown p.A (tOf p) p.len i (i+1) q - p.L i) := ⟨_, rfl⟩
            obtain ⟨u, Hu⟩ : ∃ u, Hid (u = tOf p k) := ⟨_, rfl⟩
            rw [← Hx.out] at ci
            rw [← Hu.out] at ck hu
            have hx2 : -20 ≤ x ∧ x ≤ 140 := by rw [Hx.out, ← Hy.out]; omega
            have hu2 : 0 ≤ u ∧ u ≤ 140 := by have := HLs.out k hkn2; omega
            clear hml hkn2 hx hu
            have hw : IntKind.i64.wrap (u - y) = u - y := IntWalk.i64_in _ (by omega)
            go_wp2_with fail
            by_cases hmx : x ≤ u - y
            · refine wp_region_tail 18 (by kernel_rfl) (by kernel_rfl) (fun w' => w'.cell? ⟨w.heap.size, 0, none⟩ = some (.slice (some ⟨g1, 0, none⟩) n c1) ∧ w'.cell? ⟨w1.heap.size, i, none⟩ = some (.int .i64 x) ∧ w'.cell? ⟨w1.heap.size, k, none⟩ = some (.int .i64 u) ∧ w'.cell? ⟨g1, i, none⟩ = some (.int .i64 y)) ?_ ?_
              · exact ⟨A0.cell0 rfl, ci, ck, cy⟩
              intro hHeld
              simp only [List.pop_toArray, List.dropLast]
              refine wpAnyH_take (i := 0) (v := ?_) rfl (by kernel_rfl) (by kernel_rfl) (by kernel_rfl) (fun _ _ _ h => h) (Or.inl ⟨by rfl, fun w' hS' => ?_⟩) (by assumption) ?_
              rotate_left
              · (try dsimp only at hS'); go_simp; (try rw [if_pos (by omega)]); try with_reducible rfl
              try simp only [Act.put, List.getElem_toArray, List.getElem_cons_zero, List.getElem_cons_succ, List.setIfInBounds_toArray, List.set_cons_zero, List.set_cons_succ]
              refine wpAnyH_take (i := 1) (v := ?_) rfl (by kernel_rfl) (by kernel_rfl) (by kernel_rfl) (fun _ _ _ h => h) (Or.inl ⟨by rfl, fun w' hS' => ?_⟩) (by assumption) ?_
              rotate_left
              · (try dsimp only at hS'); go_simp; (try rw [if_pos (by omega)]); try with_reducible rfl
              try simp only [Act.put, List.getElem_toArray, List.getElem_cons_zero, List.getElem_cons_succ, List.setIfInBounds_toArray, List.set_cons_zero, List.set_cons_succ]
              refine wpAnyH_take (i := 2) (v := ?_) rfl (by kernel_rfl) (by kernel_rfl) (by kernel_rfl) (fun _ _ _ h => h) (Or.inl ⟨by rfl, fun w' hS' => ?_⟩) (by assumption) ?_
              rotate_left
              · (try dsimp only at hS'); go_simp; (try rw [if_pos (by omega)]); try with_reducible rfl
              try simp only [Act.put, List.getElem_toArray, List.getElem_cons_zero, List.getElem_cons_succ, List.setIfInBounds_toArray, List.set_cons_zero, List.set_cons_succ]
              refine wpAnyH_take (i := 3) (v := ?_) rfl (by kernel_rfl) (by kernel_rfl) (by kernel_rfl) (fun _ _ _ h => h) (Or.inl ⟨by rfl, fun w' hS' => ?_⟩) (by assumption) ?_
              rotate_left
              · (try dsimp only at hS'); go_simp; (try rw [if_pos (by omega)]); try with_reducible rfl
              try simp only [Act.put, List.getElem_toArray, List.getElem_cons_zero, List.getElem_cons_succ, List.setIfInBounds_toArray, List.set_cons_zero, List.set_cons_succ]
              refine wpAnyH_take (i := 4) (v := ?_) rfl (by kernel_rfl) (by kernel_rfl) (by kernel_rfl) (fun _ _ _ h => h) (Or.inl ⟨by rfl, fun w' hS' => ?_⟩) (by assumption) ?_
              rotate_left
              · (try dsimp only at hS'); go_simp; (try rw [if_pos (by omega)]); try with_reducible rfl
              try simp only [Act.put, List.getElem_toArray, List.getElem_cons_zero, List.getElem_cons_succ, List.setIfInBounds_toArray, List.set_cons_zero, List.set_cons_succ]
              refine wpAnyH_take (i := 5) (v := ?_) rfl (by kernel_rfl) (by kernel_rfl) (by kernel_rfl) (fun _ _ _ h => h) (Or.inl ⟨by rfl, fun w' hS' => ?_⟩) (by assumption) ?_
              rotate_left
              · (try dsimp only at hS'); go_simp; (try rw [if_pos (by omega)]); try with_reducible rfl
              try simp only [Act.put, List.getElem_toArray, List.getElem_cons_zero, List.getElem_cons_succ, List.setIfInBounds_toArray, List.set_cons_zero, List.set_cons_succ]
              refine wpAnyH_take (i := 6) (v := ?_) rfl (by kernel_rfl) (by kernel_rfl) (by kernel_rfl) (fun _ _ _ h => h) (Or.inl ⟨by rfl, fun w' hS' => ?_⟩) (by assumption) ?_
              rotate_left
              · (try dsimp only at hS'); go_simp; (try rw [if_pos (by omega)]); try with_reducible rfl
              try simp only [Act.put, List.getElem_toArray, List.getElem_cons_zero, List.getElem_cons_succ, List.setIfInBounds_toArray, List.set_cons_zero, List.set_cons_succ]
              refine wpAnyH_take (i := 7) (v := ?_) rfl (by kernel_rfl) (by kernel_rfl) (by kernel_rfl) (fun _ _ _ h => h) (Or.inl ⟨by rfl, fun w' hS' => ?_⟩) (by assumption) ?_
              rotate_left
              · (try dsimp only at hS'); go_simp; (try rw [if_pos (by omega)]); try with_reducible rfl
              try simp only [Act.put, List.getElem_toArray, List.getElem_cons_zero, List.getElem_cons_succ, List.setIfInBounds_toArray, List.set_cons_zero, List.set_cons_succ]
              refine wpAnyH_take (i := 8) (v := ?_) rfl (by kernel_rfl) (by kernel_rfl) (by kernel_rfl) (fun _ _ _ h => h) (Or.inl ⟨by rfl, fun w' hS' => ?_⟩) (by assumption) ?_
              rotate_left
              · (try dsimp only at hS'); go_simp; (try rw [if_pos (by omega)]); try with_reducible rfl
              try simp only [Act.put, List.getElem_toArray, List.getElem_cons_zero, List.getElem_cons_succ, List.setIfInBounds_toArray, List.set_cons_zero, List.set_cons_succ]
              refine wpAnyH_take (i := 9) (v := ?_) rfl (by kernel_rfl) (by kernel_rfl) (by kernel_rfl) (fun _ _ _ h => h) (Or.inl ⟨by rfl, fun w' hS' => ?_⟩) (by assumption) ?_
              rotate_left
              · (try dsimp only at hS'); go_simp; (try rw [if_pos (by omega)]); try with_reducible rfl
              try simp only [Act.put, List.getElem_toArray, List.getElem_cons_zero, List.getElem_cons_succ, List.setIfInBounds_toArray, List.set_cons_zero, List.set_cons_succ]
              refine wpAnyH_take (i := 10) (v := ?_) rfl (by kernel_rfl) (by kernel_rfl) (by kernel_rfl) (fun _ _ _ h => h) (Or.inl ⟨by rfl, fun w' hS' => ?_⟩) (by assumption) ?_
              rotate_left
              · (try dsimp only at hS'); go_simp; (try rw [if_pos (by omega)]); try with_reducible rfl
              try simp only [Act.put, List.getElem_toArray, List.getElem_cons_zero, List.getElem_cons_succ, List.setIfInBounds_toArray, List.set_cons_zero, List.set_cons_succ]
              refine wpAnyH_take (i := 11) (v := ?_) rfl (by kernel_rfl) (by kernel_rfl) (by kernel_rfl) (fun _ _ _ h => h) (Or.inl ⟨by rfl, fun w' hS' => ?_⟩) (by assumption) ?_
              rotate_left
              · (try dsimp only at hS'); go_simp; (try rw [if_pos (by omega)]); try with_reducible rfl
              try simp only [Act.put, List.getElem_toArray, List.getElem_cons_zero, List.getElem_cons_succ, List.setIfInBounds_toArray, List.set_cons_zero, List.set_cons_succ]
              refine wpAnyH_take (i := 12) (v := ?_) rfl (by kernel_rfl) (by kernel_rfl) (by kernel_rfl) (fun _ _ _ h => h) (Or.inl ⟨by rfl, fun w' hS' => ?_⟩) (by assumption) ?_
              rotate_left
              · (try dsimp only at hS'); go_simp; (try rw [if_pos (by omega)]); try with_reducible rfl
              try simp only [Act.put, List.getElem_toArray, List.getElem_cons_zero, List.getElem_cons_succ, List.setIfInBounds_toArray, List.set_cons_zero, List.set_cons_succ]
              refine wpAnyH_take (i := 13) (v := ?_) rfl (by kernel_rfl) (by kernel_rfl) (by kernel_rfl) (fun _ _ _ h => h) (Or.inl ⟨by rfl, fun w' hS' => ?_⟩) (by assumption) ?_
              rotate_left
              · (try dsimp only at hS'); go_simp; (try rw [if_pos (by omega)]); try with_reducible rfl
              try simp only [Act.put, List.getElem_toArray, List.getElem_cons_zero, List.getElem_cons_succ, List.setIfInBounds_toArray, List.set_cons_zero, List.set_cons_succ]
              refine wpAnyH_take (i := 14) (v := ?_) rfl (by kernel_rfl) (by kernel_rfl) (by kernel_rfl) (fun _ _ _ h => h) (Or.inl ⟨by rfl, fun w' hS' => ?_⟩) (by assumption) ?_
              rotate_left
              · (try dsimp only at hS'); go_simp; (try rw [if_pos (by omega)]); try with_reducible rfl
              try simp only [Act.put, List.getElem_toArray, List.getElem_cons_zero, List.getElem_cons_succ, List.setIfInBounds_toArray, List.set_cons_zero, List.set_cons_succ]
              refine wpAnyH_take (i := 15) (v := ?_) rfl (by kernel_rfl) (by kernel_rfl) (by kernel_rfl) (fun _ _ _ h => h) (Or.inl ⟨by rfl, fun w' hS' => ?_⟩) (by assumption) ?_
              rotate_left
              · (try dsimp only at hS'); go_simp; (try rw [if_pos (by omega)]); try with_reducible rfl
              try simp only [Act.put, List.getElem_toArray, List.getElem_cons_zero, List.getElem_cons_succ, List.setIfInBounds_toArray, List.set_cons_zero, List.set_cons_succ]
              refine wpAnyH_take (i := 16) (v := ?_) rfl (by kernel_rfl) (by kernel_rfl) (by kernel_rfl) (fun _ _ _ h => h) (Or.inl ⟨by rfl, fun w' hS' => ?_⟩) (by assumption) ?_
              rotate_left
              · (try dsimp only at hS'); go_simp; (try rw [if_pos (by omega)]); try with_reducible rfl
              try simp only [Act.put, List.getElem_toArray, List.getElem_cons_zero, List.getElem_cons_succ, List.setIfInBounds_toArray, List.set_cons_zero, List.set_cons_succ]
              refine wpAnyH_take (i := 17) (v := ?_) rfl (by kernel_rfl) (by kernel_rfl) (by kernel_rfl) (fun _ _ _ h => h) (Or.inl ⟨by rfl, fun w' hS' => ?_⟩) (by assumption) ?_
              rotate_left
              · (try dsimp only at hS'); go_simp; (try rw [if_pos (by omega)]); try with_reducible rfl
              try simp only [Act.put, List.getElem_toArray, List.getElem_cons_zero, List.getElem_cons_succ, List.setIfInBounds_toArray, List.set_cons_zero, List.set_cons_succ]
              refine wpAnyH_done (by kernel_rfl) ?_ _
              refine tail_step rfl (fun K' hK => ?_)
              refine if_yes (by rfl) ?_
              try simp only [Act.put, List.getElem_toArray, List.getElem_cons_zero, List.getElem_cons_succ, List.setIfInBounds_toArray, List.set_cons_zero, List.set_cons_succ]
              go_simp
              refine hK _ _ ?_
              clear hK K'
              try simp only [Act.put, List.getElem_toArray, List.getElem_cons_zero, List.getElem_cons_succ, List.setIfInBounds_toArray, List.set_cons_zero, List.set_cons_succ]
              go_wp2_with fail
              go_roundg (n - (i+1+(q+1)))
              case rel =>
                refine ⟨q+1, by have := Hkq.out; omega, rfl, by have := Hkq.out; go_num, ?_, (A0.far (by dsimp only; omega) _).drew, ext_drew (ext_set E (by dsimp only; omega) _)⟩
                rw [← lateMid_next p n i q Hb2.out, ← Hy.out, show tOf p (i+1+q) = u by rw [Hu.out, Hkq.out], show lateDown p.A (tOf p) p.len i (i+1) q - y = x by rw [Hx.out, Hy.out], Int.min_eq_left hmx]
                exact Lib.hid (R.out.set i x).drew
              case measure => have := Hq.out; have := Hkq.out; omega
            · refine wp_region_tail 18 (by kernel_rfl) (by kernel_rfl) (fun w' => w'.cell? ⟨w.heap.size, 0, none⟩ = some (.slice (some ⟨g1, 0, none⟩) n c1) ∧ w'.cell? ⟨w1.heap.size, i, none⟩ = some (.int .i64 x) ∧ w'.cell? ⟨w1.heap.size, k, none⟩ = some (.int .i64 u) ∧ w'.cell? ⟨g1, i, none⟩ = some (.int .i64 y)) ?_ ?_
              · exact ⟨A0.cell0 rfl, ci, ck, cy⟩
              intro hHeld
              simp only [List.pop_toArray, List.dropLast]
              refine wpAnyH_take (i := 0) (v := ?_) rfl (by kernel_rfl) (by kernel_rfl) (by kernel_rfl) (fun _ _ _ h => h) (Or.inl ⟨by rfl, fun w' hS' => ?_⟩) (by assumption) ?_
              rotate_left
              · (try dsimp only at hS'); go_simp; (try rw [if_pos (by omega)]); try with_reducible rfl
              try simp only [Act.put, List.getElem_toArray, List.getElem_cons_zero, List.getElem_cons_succ, List.setIfInBounds_toArray, List.set_cons_zero, List.set_cons_succ]
              refine wpAnyH_take (i := 1) (v := ?_) rfl (by kernel_rfl) (by kernel_rfl) (by kernel_rfl) (fun _ _ _ h => h) (Or.inl ⟨by rfl, fun w' hS' => ?_⟩) (by assumption) ?_
              rotate_left
              · (try dsimp only at hS'); go_simp; (try rw [if_pos (by omega)]); try with_reducible rfl
              try simp only [Act.put, List.getElem_toArray, List.getElem_cons_zero, List.getElem_cons_succ, List.setIfInBounds_toArray, List.set_cons_zero, List.set_cons_succ]
              refine wpAnyH_take (i := 2) (v := ?_) rfl (by kernel_rfl) (by kernel_rfl) (by kernel_rfl) (fun _ _ _ h => h) (Or.inl ⟨by rfl, fun w' hS' => ?_⟩) (by assumption) ?_
              rotate_left
              · (try dsimp only at hS'); go_simp; (try rw [if_pos (by omega)]); try with_reducible rfl
              try simp only [Act.put, List.getElem_toArray, List.getElem_cons_zero, List.getElem_cons_succ, List.setIfInBounds_toArray, List.set_cons_zero, List.set_cons_succ]
              refine wpAnyH_take (i := 3) (v := ?_) rfl (by kernel_rfl) (by kernel_rfl) (by kernel_rfl) (fun _ _ _ h => h) (Or.inl ⟨by rfl, fun w' hS' => ?_⟩) (by assumption) ?_
              rotate_left
              · (try dsimp only at hS'); go_simp; (try rw [if_pos (by omega)]); try with_reducible rfl
              try simp only [Act.put, List.getElem_toArray, List.getElem_cons_zero, List.getElem_cons_succ, List.setIfInBounds_toArray, List.set_cons_zero, List.set_cons_succ]
              refine wpAnyH_take (i := 4) (v := ?_) rfl (by kernel_rfl) (by kernel_rfl) (by kernel_rfl) (fun _ _ _ h => h) (Or.inl ⟨by rfl, fun w' hS' => ?_⟩) (by assumption) ?_
              rotate_left
              · (try dsimp only at hS'); go_simp; (try rw [if_pos (by omega)]); try with_reducible rfl
              try simp only [Act.put, List.getElem_toArray, List.getElem_cons_zero, List.getElem_cons_succ, List.setIfInBounds_toArray, List.set_cons_zero, List.set_cons_succ]
              refine wpAnyH_take (i := 5) (v := ?_) rfl (by kernel_rfl) (by kernel_rfl) (by kernel_rfl) (fun _ _ _ h => h) (Or.inl ⟨by rfl, fun w' hS' => ?_⟩) (by assumption) ?_
              rotate_left
              · (try dsimp only at hS'); go_simp; (try rw [if_pos (by omega)]); try with_reducible rfl
              try simp only [Act.put, List.getElem_toArray, List.getElem_cons_zero, List.getElem_cons_succ, List.setIfInBounds_toArray, List.set_cons_zero, List.set_cons_succ]
              refine wpAnyH_take (i := 6) (v := ?_) rfl (by kernel_rfl) (by kernel_rfl) (by kernel_rfl) (fun _ _ _ h => h) (Or.inl ⟨by rfl, fun w' hS' => ?_⟩) (by assumption) ?_
              rotate_left
              · (try dsimp only at hS'); go_simp; (try rw [if_pos (by omega)]); try with_reducible rfl
              try simp only [Act.put, List.getElem_toArray, List.getElem_cons_zero, List.getElem_cons_succ, List.setIfInBounds_toArray, List.set_cons_zero, List.set_cons_succ]
              refine wpAnyH_take (i := 7) (v := ?_) rfl (by kernel_rfl) (by kernel_rfl) (by kernel_rfl) (fun _ _ _ h => h) (Or.inl ⟨by rfl, fun w' hS' => ?_⟩) (by assumption) ?_
              rotate_left
              · (try dsimp only at hS'); go_simp; (try rw [if_pos (by omega)]); try with_reducible rfl
              try simp only [Act.put, List.getElem_toArray, List.getElem_cons_zero, List.getElem_cons_succ, List.setIfInBounds_toArray, List.set_cons_zero, List.set_cons_succ]
              refine wpAnyH_take (i := 8) (v := ?_) rfl (by kernel_rfl) (by kernel_rfl) (by kernel_rfl) (fun _ _ _ h => h) (Or.inl ⟨by rfl, fun w' hS' => ?_⟩) (by assumption) ?_
              rotate_left
              · (try dsimp only at hS'); go_simp; (try rw [if_pos (by omega)]); try with_reducible rfl
              try simp only [Act.put, List.getElem_toArray, List.getElem_cons_zero, List.getElem_cons_succ, List.setIfInBounds_toArray, List.set_cons_zero, List.set_cons_succ]
              refine wpAnyH_take (i := 9) (v := ?_) rfl (by kernel_rfl) (by kernel_rfl) (by kernel_rfl) (fun _ _ _ h => h) (Or.inl ⟨by rfl, fun w' hS' => ?_⟩) (by assumption) ?_
              rotate_left
              · (try dsimp only at hS'); go_simp; (try rw [if_pos (by omega)]); try with_reducible rfl
              try simp only [Act.put, List.getElem_toArray, List.getElem_cons_zero, List.getElem_cons_succ, List.setIfInBounds_toArray, List.set_cons_zero, List.set_cons_succ]
              refine wpAnyH_take (i := 10) (v := ?_) rfl (by kernel_rfl) (by kernel_rfl) (by kernel_rfl) (fun _ _ _ h => h) (Or.inl ⟨by rfl, fun w' hS' => ?_⟩) (by assumption) ?_
              rotate_left
              · (try dsimp only at hS'); go_simp; (try rw [if_pos (by omega)]); try with_reducible rfl
              try simp only [Act.put, List.getElem_toArray, List.getElem_cons_zero, List.getElem_cons_succ, List.setIfInBounds_toArray, List.set_cons_zero, List.set_cons_succ]
              refine wpAnyH_take (i := 11) (v := ?_) rfl (by kernel_rfl) (by kernel_rfl) (by kernel_rfl) (fun _ _ _ h => h) (Or.inl ⟨by rfl, fun w' hS' => ?_⟩) (by assumption) ?_
              rotate_left
              · (try dsimp only at hS'); go_simp; (try rw [if_pos (by omega)]); try with_reducible rfl
              try simp only [Act.put, List.getElem_toArray, List.getElem_cons_zero, List.getElem_cons_succ, List.setIfInBounds_toArray, List.set_cons_zero, List.set_cons_succ]
              refine wpAnyH_take (i := 12) (v := ?_) rfl (by kernel_rfl) (by kernel_rfl) (by kernel_rfl) (fun _ _ _ h => h) (Or.inl ⟨by rfl, fun w' hS' => ?_⟩) (by assumption) ?_
              rotate_left
              · (try dsimp only at hS'); go_simp; (try rw [if_pos (by omega)]); try with_reducible rfl
              try simp only [Act.put, List.getElem_toArray, List.getElem_cons_zero, List.getElem_cons_succ, List.setIfInBounds_toArray, List.set_cons_zero, List.set_cons_succ]
              refine wpAnyH_take (i := 13) (v := ?_) rfl (by kernel_rfl) (by kernel_rfl) (by kernel_rfl) (fun _ _ _ h => h) (Or.inl ⟨by rfl, fun w' hS' => ?_⟩) (by assumption) ?_
              rotate_left
              · (try dsimp only at hS'); go_simp; (try rw [if_pos (by omega)]); try with_reducible rfl
              try simp only [Act.put, List.getElem_toArray, List.getElem_cons_zero, List.getElem_cons_succ, List.setIfInBounds_toArray, List.set_cons_zero, List.set_cons_succ]
              refine wpAnyH_take (i := 14) (v := ?_) rfl (by kernel_rfl) (by kernel_rfl) (by kernel_rfl) (fun _ _ _ h => h) (Or.inl ⟨by rfl, fun w' hS' => ?_⟩) (by assumption) ?_
              rotate_left
              · (try dsimp only at hS'); go_simp; (try rw [if_pos (by omega)]); try with_reducible rfl
              try simp only [Act.put, List.getElem_toArray, List.getElem_cons_zero, List.getElem_cons_succ, List.setIfInBounds_toArray, List.set_cons_zero, List.set_cons_succ]
              refine wpAnyH_take (i := 15) (v := ?_) rfl (by kernel_rfl) (by kernel_rfl) (by kernel_rfl) (fun _ _ _ h => h) (Or.inl ⟨by rfl, fun w' hS' => ?_⟩) (by assumption) ?_
              rotate_left
              · (try dsimp only at hS'); go_simp; (try rw [if_pos (by omega)]); try with_reducible rfl
              try simp only [Act.put, List.getElem_toArray, List.getElem_cons_zero, List.getElem_cons_succ, List.setIfInBounds_toArray, List.set_cons_zero, List.set_cons_succ]
              refine wpAnyH_take (i := 16) (v := ?_) rfl (by kernel_rfl) (by kernel_rfl) (by kernel_rfl) (fun _ _ _ h => h) (Or.inl ⟨by rfl, fun w' hS' => ?_⟩) (by assumption) ?_
              rotate_left
              · (try dsimp only at hS'); go_simp; (try rw [if_pos (by omega)]); try with_reducible rfl
              try simp only [Act.put, List.getElem_toArray, List.getElem_cons_zero, List.getElem_cons_succ, List.setIfInBounds_toArray, List.set_cons_zero, List.set_cons_succ]
              refine wpAnyH_take (i := 17) (v := ?_) rfl (by kernel_rfl) (by kernel_rfl) (by kernel_rfl) (fun _ _ _ h => h) (Or.inl ⟨by rfl, fun w' hS' => ?_⟩) (by assumption) ?_
              rotate_left
              · (try dsimp only at hS'); go_simp; (try rw [if_pos (by omega)]); try with_reducible rfl
              try simp only [Act.put, List.getElem_toArray, List.getElem_cons_zero, List.getElem_cons_succ, List.setIfInBounds_toArray, List.set_cons_zero, List.set_cons_succ]
              refine wpAnyH_done (by kernel_rfl) ?_ _
              refine tail_step rfl (fun K' hK => ?_)
              refine if_yes (by rfl) ?_
              try simp only [Act.put, List.getElem_toArray, List.getElem_cons_zero, List.getElem_cons_succ, List.setIfInBounds_toArray, List.set_cons_zero, List.set_cons_succ]
              go_simp
              refine hK _ _ ?_
              clear hK K'
              try simp only [Act.put, List.getElem_toArray, List.getElem_cons_zero, List.getElem_cons_succ, List.setIfInBounds_toArray, List.set_cons_zero, List.set_cons_succ]
              go_wp2_with fail
              go_roundg (n - (i+1+(q+1)))
              case rel =>
                refine ⟨q+1, by have := Hkq.out; omega, rfl, by have := Hkq.out; go_num, ?_, (A0.far (by dsimp only; omega) _).drew, ext_drew (ext_set E (by dsimp only; omega) _)⟩
                rw [← lateMid_next p n i q Hb2.out, ← Hy.out, show tOf p (i+1+q) = u by rw [Hu.out, Hkq.out], show lateDown p.A (tOf p) p.len i (i+1) q - y = x by rw [Hx.out, Hy.out], Int.min_eq_right (by omega)]
                exact Lib.hid (R.out.set i (u - y)).drew
              case measure => have := Hq.out; have := Hkq.out; omega
        · have hqn : i + 1 + q = n := by omega
          rw [show (i : Int) + 1 + q = (n : Int) by omega]
          have hq2 : q = n - (i+1) := by omega
          subst hq2
          clear hqn
          go_wp2_with fail
          go_roundg i
          case rel =>
            refine ⟨i, by omega, rfl, rfl, ?_, A0, E⟩
            rw [← lateMid_full p n i hn.out hin]
            exact R
          case measure => have := Hk.out; omega
    · obtain rfl : z = 0 := by omega
      rw [show ((0 : Nat) : Int) - 1 = -1 by omega]
      go_wp2_with fail
      go_ret
      refine ⟨_, rfl, ?_, E⟩
      rw [show p.lateOf = p.late from if_pos Hok.out, ← lateAt_all p, ← hn.out]
      exact R.out
end Go.Proofs.Ytllicgomlohffaa
