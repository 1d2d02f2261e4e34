/- The walks of SparesOf, of impl and of spec. No condition but that the numbers can be read. -/
import Derived.Test.YtllicgomlohffaaLateI
import Derived.Test.YtllicgomlohffaaLateS
import Derived.Test.YtllicgomlohffaaPlace
import Derived.Test.YtllicgomlohffaaTail
namespace Go.Proofs.Ytllicgomlohffaa
open Go.RowKit
set_option linter.unusedVariables false
set_option linter.unusedSimpArgs false
def spF (p : Pj) : Nat → Int := fun j => p.lateOf.getD j 0 - p.earlyOf.getD j 0
def Pj.sparesOf (p : Pj) : List Int := rowOf p.earlyOf.length (spF p)
theorem both_len (p : Pj) : p.lateOf.length = p.earlyOf.length := by
  unfold Pj.lateOf Pj.earlyOf
  split
  · rw [late_len, early_len]
  · rfl
theorem both_in (p : Pj) : ∀ j, j < p.earlyOf.length → 0 ≤ p.earlyOf.getD j 0 ∧ p.earlyOf.getD j 0 ≤ 120 ∧ 0 ≤ p.lateOf.getD j 0 ∧ p.lateOf.getD j 0 ≤ 140 := by
  intro j hj
  by_cases hok : p.ok = true
  · have e1 : p.earlyOf = p.early := if_pos hok
    have e2 : p.lateOf = p.late := if_pos hok
    rw [e1] at hj ⊢
    rw [e2]
    have h1 := early_in hok j hj
    rw [early_len] at hj
    have h2 := late_in hok j hj
    have h3 := len_in hok
    have h4 := (ok_upto hok).2.2.1 j hj
    have e3 : tOf p j = p.late.getD j 0 := rfl
    omega
  · have e1 : p.earlyOf = [] := if_neg hok
    rw [e1] at hj
    simp at hj
theorem early_small (p : Pj) : p.earlyOf.length ≤ 6 := by
  unfold Pj.earlyOf
  split
  · rename_i h; rw [early_len]; exact (ok_upto h).1
  · simp
def spMid (p : Pj) (k : Nat) : List Int := rowOf p.earlyOf.length fun j => if j < k then spF p j else p.lateOf.getD j 0
theorem spMid_zero (p : Pj) : spMid p 0 = p.lateOf := by
  have h := rowOf_self p.lateOf
  rw [both_len] at h
  exact Eq.trans (rowOf_congr _ _ _ fun j hj => if_neg (Nat.not_lt_zero _)) h
theorem spMid_all (p : Pj) : spMid p p.earlyOf.length = p.sparesOf := rowOf_congr _ _ _ fun j hj => if_pos hj
theorem spMid_at (p : Pj) (k : Nat) (h : k < p.earlyOf.length) : (spMid p k).getD k 0 = p.lateOf.getD k 0 := by
  rw [spMid, rowOf_getD _ _ _ h, if_neg (Nat.lt_irrefl _)]
theorem spMid_next (p : Pj) (k : Nat) : (spMid p k).set k (p.lateOf.getD k 0 - p.earlyOf.getD k 0) = spMid p (k+1) := by
  rw [spMid, rowOf_set]
  refine rowOf_congr _ _ _ fun j hj => ?_
  by_cases h : j = k
  · subst h; rw [if_pos rfl, if_pos (by omega)]; rfl
  · rw [if_neg h]
    by_cases h2 : j < k
    · rw [if_pos h2, if_pos (by omega)]
    · rw [if_neg h2, if_neg (by omega)]
set_option maxRecDepth 100000 in
set_option maxHeartbeats 4000000 in
theorem impl_SparesOf (p : Pj) (v1 v2 : Value) (w : World) (h1 : Ints w 0 v1 p.lo) (h2 : Ints w 0 v2 p.af) :
    Calls Try.prog 34 #[.agg #[v1, v2]] w (RetInts w p.sparesOf) := by
  have H1 := Lib.hid h1; have H2 := Lib.hid h2
  obtain ⟨a1, c1, rfl, hn1, hc1, -⟩ := h1.open
  obtain ⟨a2, c2, rfl, hn2, hc2, -⟩ := h2.open
  clear h1 h2
  obtain ⟨n, hn⟩ : ∃ n, Hid (n = p.earlyOf.length) := ⟨_, rfl⟩
  have Hlt : Hid (p.lateOf.length = n) := by rw [hn.out]; exact both_len p
  go_enter Try.func34, Try.ntmps34
  go_wp2_with fail
  obtain ⟨W, hW, A0, hs, E⟩ := one_box w #[.slice a1 p.lo.length c1, .slice a2 p.af.length c2] 27
  rw [← hW.out]
  refine (impl_LateOf p _ _ _ (H1.out.ext E) (H2.out.ext E)).mono ?_
  rintro e w1 ⟨v3, rfl, h3, hb1⟩
  have A0 := A0.ext hb1
  have E := ext_trans E hb1
  have q1 := hb1.size
  obtain ⟨a3, c3, rfl, hn3, hc3, -⟩ := h3.open
  rw [Hlt.out] at hn3 h3 ⊢
  have R := Lib.hid h3
  have Blt := Lib.hid h3.lt
  clear h3 hb1
  obtain ⟨rc0, rz0⟩ := (A0).rules; have rl0 := (A0).lt
  go_wp2_with fail
  refine (impl_EarlyOf p _ _ _ (H1.out.ext E) (H2.out.ext E)).mono ?_
  rintro e w2 ⟨v4, rfl, h4, hb2⟩
  have E := ext_trans E hb2
  have R := Lib.hid (R.out.ext hb2)
  have q2 := hb2.size
  obtain ⟨a4, c4, rfl, hn4, hc4, -⟩ := h4.open
  have V := Lib.hid h4
  rw [← hn.out] at hn4 V ⊢
  clear h4 hb2 rc0 rz0 rl0 A0
  go_wp2_with fail
  have R : Hid (Ints w2 W.heap.size (.slice a3 n c3) (spMid p 0)) := by rw [spMid_zero]; exact R
  go_loopg [11] n (fun m kk wr => ∃ k : Nat, k ≤ n ∧ m = n - k ∧ kk = .int .i64 k ∧ Hid (Ints wr W.heap.size (.slice a3 n c3) (spMid p k)) ∧ Hid (Ints wr w1.heap.size (.slice a4 n c4) p.earlyOf) ∧ Below w.heap.size w wr)
  case atStart => exact ⟨0, by omega, by omega, rfl, R, V, E⟩
  case round =>
    clear R V E
    obtain ⟨k, hk, hgk, rfl, R, V, E⟩ := hrel
    have Hk := Lib.hid hgk
    clear hgk
    by_cases hlt : k < n
    · have hke : k < p.earlyOf.length := by rw [← hn.out]; exact hlt
      have hrl : (spMid p k).length = n := by rw [hn.out]; exact rowOf_length _ _
      obtain ⟨g3, ha3, hg3b, hg3, hfz, ct⟩ := R.out.at_ (j := k) (by omega)
      subst ha3
      obtain ⟨g4, ha4, hg4b, hg4, _, ce⟩ := V.out.at_ hke
      subst ha4
      rw [spMid_at p k hke] at ct
      have hin := both_in p k hke
      obtain ⟨x, Hx⟩ : ∃ x, Hid (x = p.lateOf.getD k 0) := ⟨_, rfl⟩
      obtain ⟨y, Hy⟩ : ∃ y, Hid (y = p.earlyOf.getD k 0) := ⟨_, rfl⟩
      rw [← Hx.out] at ct hin
      rw [← Hy.out] at ce hin
      have hne : g3 < w1.heap.size := (Blt.out g3 rfl).2
      clear hke hrl
      go_wp2_with fail
      go_roundg (n - (k+1))
      case rel =>
        refine ⟨k+1, by omega, rfl, by go_num, ?_, Lib.hid (V.out.low (by dsimp only; omega) _), ext_set E (by dsimp only; omega) _⟩
        rw [← spMid_next p k, ← Hx.out, ← Hy.out]
        exact Lib.hid (R.out.set k (x - y))
      case measure => have := Hk.out; omega
    · have hkn : n = k := by omega
      subst hkn
      go_wp2_with fail
      go_ret
      refine ⟨_, rfl, ?_, E⟩
      rw [← spMid_all, ← hn.out]
      exact R.out.base (by omega)
set_option maxRecDepth 100000 in
set_option maxHeartbeats 4000000 in
theorem spec_SparesOf (p : Pj) (v1 v2 : Value) (w : World) (h1 : Ints w 0 v1 p.lo) (h2 : Ints w 0 v2 p.af) :
    Calls Try.prog 33 #[.agg #[v1, v2]] w (RetInts w p.sparesOf) := by
  have H1 := Lib.hid h1; have H2 := Lib.hid h2
  obtain ⟨a1, c1, rfl, hn1, hc1, -⟩ := h1.open
  obtain ⟨a2, c2, rfl, hn2, hc2, -⟩ := h2.open
  clear h1 h2
  obtain ⟨n, hn⟩ : ∃ n, Hid (n = p.earlyOf.length) := ⟨_, rfl⟩
  have Hlt : Hid (p.lateOf.length = n) := by rw [hn.out]; exact both_len p
  have hn6 : n ≤ 6 := by rw [hn.out]; exact early_small p
  go_enter Try.func33, Try.ntmps33
  go_wp2_with fail
  obtain ⟨W, hW, A0, T0, hs, E⟩ := two_boxes w #[.slice a1 p.lo.length c1, .slice a2 p.af.length c2] #[] 27 3
  rw [← hW.out]
  have O := Lib.hid (Ints.ofBox T0 (Nat.le_refl _))
  clear T0
  refine (spec_EarlyOf p _ _ _ (H1.out.ext E) (H2.out.ext E)).mono ?_
  rintro e w1 ⟨v4, rfl, h4, hb1⟩
  have A0 := A0.ext hb1
  have E := ext_trans E hb1
  have O := Lib.hid (O.out.ext hb1)
  have q1 := hb1.size
  obtain ⟨a4, c4, rfl, hn4, hc4, -⟩ := h4.open
  have V := Lib.hid h4
  rw [← hn.out] at hn4 V ⊢
  have BV := Lib.hid V.out.lt
  clear h4 hb1
  obtain ⟨rc0, rz0⟩ := (A0).rules; have rl0 := (A0).lt
  go_wp2_with fail
  refine (spec_LateOf p _ _ _ (H1.out.ext E) (H2.out.ext E)).mono ?_
  rintro e w2 ⟨v3, rfl, h3, hb2⟩
  have E := ext_trans E hb2
  have O := Lib.hid (O.out.ext hb2)
  have V := Lib.hid (V.out.ext hb2)
  have q2 := hb2.size
  obtain ⟨a3, c3, rfl, hn3, hc3, -⟩ := h3.open
  rw [Hlt.out] at hn3 h3 ⊢
  have R := Lib.hid h3
  have BR := Lib.hid h3.lt
  clear h3 hb2 rc0 rz0 rl0 A0
  go_wp2_with fail
  go_loopg [3, 6] n (fun m vo kk wr => ∃ k : Nat, k ≤ n ∧ m = n - k ∧ kk = .int .i64 k ∧ Hid (Ints wr (w.heap.size + 1) vo (rowOf k (spF p))) ∧ Hid (Ints wr w1.heap.size (.slice a3 n c3) p.lateOf) ∧ Hid (Ints wr W.heap.size (.slice a4 n c4) p.earlyOf) ∧
    Below w.heap.size w wr ∧ w2.heap.size ≤ wr.heap.size ∧ Hid (∀ q, vo.ownBlock = some q → q < W.heap.size ∨ w2.heap.size ≤ q))
  case atStart => exact ⟨0, by omega, by omega, rfl, O, R, V, E, by omega, Lib.hid (fun q hq => by simp [Value.ownBlock] at hq; omega)⟩
  case round =>
    clear R V E O
    obtain ⟨k, hk, hgk, rfl, O, R, V, E, hsz, HB⟩ := hrel
    have Hk := Lib.hid hgk
    clear hgk
    obtain ⟨ao, co, rfl, -⟩ := O.out.open
    rw [rowOf_length] at O HB ⊢
    by_cases hlt : k < n
    · have hke : k < p.earlyOf.length := by rw [← hn.out]; exact hlt
      have hkl : k < p.lateOf.length := by rw [Hlt.out]; exact hlt
      obtain ⟨g3, ha3, hg3b, hg3, _, ct⟩ := R.out.at_ hkl
      subst ha3
      obtain ⟨g4, ha4, hg4b, hg4, _, ce⟩ := V.out.at_ hke
      subst ha4
      have hin := both_in p k hke
      obtain ⟨x, Hx⟩ : ∃ x, Hid (x = p.lateOf.getD k 0) := ⟨_, rfl⟩
      obtain ⟨y, Hy⟩ : ∃ y, Hid (y = p.earlyOf.getD k 0) := ⟨_, rfl⟩
      rw [← Hx.out] at ct hin
      rw [← Hy.out] at ce hin
      have h3b := (BR.out g3 rfl).2
      have h4b := (BV.out g4 rfl).2
      clear hke hkl
      have hw : IntKind.i64.wrap (x - y) = x - y := IntWalk.i64_in _ (by omega)
      go_wp2_with fail
      refine wp_region_tail 12 (by kernel_rfl) (by kernel_rfl) (fun w' => w'.cell? ⟨g3, k, none⟩ = some (.int .i64 x) ∧ w'.cell? ⟨g4, k, none⟩ = some (.int .i64 y)) ?_ ?_
      · exact ⟨ct, ce⟩
      intro hHeld
      have O := Lib.hid O.out.drew
      have R := Lib.hid R.out.drew
      have V := Lib.hid V.out.drew
      have E := ext_drew E
      obtain ⟨d, hd⟩ : ∃ d, Hid (d = wr.drew) := ⟨_, rfl⟩
      have qd : wr.heap.size ≤ d.heap.size := by rw [hd.out]; exact Nat.le_refl _
      rw [← hd.out] at O R V E hHeld ⊢
      simp only [List.pop_toArray, List.dropLast]
      refine wpAnyH_take (i := 0) (v := ?_) rfl (by kernel_rfl) (by kernel_rfl) (by kernel_rfl) (fun _ _ _ h => h) (Or.inl ⟨by rfl, fun w' hS' => ?_⟩) (by assumption) ?_
      rotate_left
      · (try dsimp only at hS'); go_simp; (try rw [if_pos (by omega)]); try with_reducible rfl
      try simp only [Act.put, List.getElem_toArray, List.getElem_cons_zero, List.getElem_cons_succ, List.setIfInBounds_toArray, List.set_cons_zero, List.set_cons_succ]
      refine wpAnyH_take (i := 1) (v := ?_) rfl (by kernel_rfl) (by kernel_rfl) (by kernel_rfl) (fun _ _ _ h => h) (Or.inl ⟨by rfl, fun w' hS' => ?_⟩) (by assumption) ?_
      rotate_left
      · (try dsimp only at hS'); go_simp; (try rw [if_pos (by omega)]); try with_reducible rfl
      try simp only [Act.put, List.getElem_toArray, List.getElem_cons_zero, List.getElem_cons_succ, List.setIfInBounds_toArray, List.set_cons_zero, List.set_cons_succ]
      refine wpAnyH_take (i := 2) (v := ?_) rfl (by kernel_rfl) (by kernel_rfl) (by kernel_rfl) (fun _ _ _ h => h) (Or.inl ⟨by rfl, fun w' hS' => ?_⟩) (by assumption) ?_
      rotate_left
      · (try dsimp only at hS'); go_simp; (try rw [if_pos (by omega)]); try with_reducible rfl
      try simp only [Act.put, List.getElem_toArray, List.getElem_cons_zero, List.getElem_cons_succ, List.setIfInBounds_toArray, List.set_cons_zero, List.set_cons_succ]
      refine wpAnyH_take (i := 3) (v := ?_) rfl (by kernel_rfl) (by kernel_rfl) (by kernel_rfl) (fun _ _ _ h => h) (Or.inl ⟨by rfl, fun w' hS' => ?_⟩) (by assumption) ?_
      rotate_left
      · (try dsimp only at hS'); go_simp; (try rw [if_pos (by omega)]); try with_reducible rfl
      try simp only [Act.put, List.getElem_toArray, List.getElem_cons_zero, List.getElem_cons_succ, List.setIfInBounds_toArray, List.set_cons_zero, List.set_cons_succ]
      refine wpAnyH_take (i := 4) (v := ?_) rfl (by kernel_rfl) (by kernel_rfl) (by kernel_rfl) (fun _ _ _ h => h) (Or.inl ⟨by rfl, fun w' hS' => ?_⟩) (by assumption) ?_
      rotate_left
      · (try dsimp only at hS'); go_simp; (try rw [if_pos (by omega)]); try with_reducible rfl
      try simp only [Act.put, List.getElem_toArray, List.getElem_cons_zero, List.getElem_cons_succ, List.setIfInBounds_toArray, List.set_cons_zero, List.set_cons_succ]
      refine wpAnyH_take (i := 5) (v := ?_) rfl (by kernel_rfl) (by kernel_rfl) (by kernel_rfl) (fun _ _ _ h => h) (Or.inl ⟨by rfl, fun w' hS' => ?_⟩) (by assumption) ?_
      rotate_left
      · (try dsimp only at hS'); go_simp; (try rw [if_pos (by omega)]); try with_reducible rfl
      try simp only [Act.put, List.getElem_toArray, List.getElem_cons_zero, List.getElem_cons_succ, List.setIfInBounds_toArray, List.set_cons_zero, List.set_cons_succ]
      refine wpAnyH_take (i := 6) (v := ?_) rfl (by kernel_rfl) (by kernel_rfl) (by kernel_rfl) (fun _ _ _ h => h) (Or.inl ⟨by rfl, fun w' hS' => ?_⟩) (by assumption) ?_
      rotate_left
      · (try dsimp only at hS'); go_simp; (try rw [if_pos (by omega)]); try with_reducible rfl
      try simp only [Act.put, List.getElem_toArray, List.getElem_cons_zero, List.getElem_cons_succ, List.setIfInBounds_toArray, List.set_cons_zero, List.set_cons_succ]
      refine wpAnyH_take (i := 7) (v := ?_) rfl (by kernel_rfl) (by kernel_rfl) (by kernel_rfl) (fun _ _ _ h => h) (Or.inl ⟨by rfl, fun w' hS' => ?_⟩) (by assumption) ?_
      rotate_left
      · (try dsimp only at hS'); go_simp; (try rw [if_pos (by omega)]); try with_reducible rfl
      try simp only [Act.put, List.getElem_toArray, List.getElem_cons_zero, List.getElem_cons_succ, List.setIfInBounds_toArray, List.set_cons_zero, List.set_cons_succ]
      refine wpAnyH_take (i := 8) (v := ?_) rfl (by kernel_rfl) (by kernel_rfl) (by kernel_rfl) (fun _ _ _ h => h) (Or.inl ⟨by rfl, fun w' hS' => ?_⟩) (by assumption) ?_
      rotate_left
      · (try dsimp only at hS'); go_simp; (try rw [if_pos (by omega)]); try with_reducible rfl
      try simp only [Act.put, List.getElem_toArray, List.getElem_cons_zero, List.getElem_cons_succ, List.setIfInBounds_toArray, List.set_cons_zero, List.set_cons_succ]
      refine wpAnyH_take (i := 9) (v := ?_) rfl (by kernel_rfl) (by kernel_rfl) (by kernel_rfl) (fun _ _ _ h => h) (Or.inl ⟨by rfl, fun w' hS' => ?_⟩) (by assumption) ?_
      rotate_left
      · (try dsimp only at hS'); go_simp; (try rw [if_pos (by omega)]); try with_reducible rfl
      try simp only [Act.put, List.getElem_toArray, List.getElem_cons_zero, List.getElem_cons_succ, List.setIfInBounds_toArray, List.set_cons_zero, List.set_cons_succ]
      try rw [hw]
      refine wpAnyH_ready (rs := [10]) (by kernel_rfl) (by simp) ?_
      refine AllReadyH.cons rfl (fun K' hK => ?_) AllReadyH.nil
      refine if_yes (by rfl) ?_
      try simp only [Act.put, List.getElem_toArray, List.getElem_cons_zero, List.getElem_cons_succ, List.setIfInBounds_toArray, List.set_cons_zero, List.set_cons_succ]
      go_simp
      obtain ⟨d2, hd2, T2, hs2, hb2⟩ := one_box d #[.int .i64 (x - y)] 3
      have hlit : Ints d2 0 (.slice (some ⟨d.heap.size, 0, none⟩) 1 1) [x - y] := by rw [hd2.out]; exact (Ints.lit d (x - y)).base (Nat.zero_le _)
      try rw [hw]
      rw [← hd2.out]
      have O := Lib.hid (O.out.ext hb2)
      have R := Lib.hid (R.out.ext hb2)
      have V := Lib.hid (V.out.ext hb2)
      have E := ext_trans E hb2
      have q2' := hb2.size
      refine hK.out _ _ ?_ (fun hHeld => ?_)
      · exact ⟨by rw [R.out.cellI (by rw [Hlt.out]; exact hlt), Hx.out], by rw [V.out.cellI (by rw [← hn.out]; exact hlt), Hy.out]⟩
      clear hK K'
      try simp only [Act.put, List.getElem_toArray, List.getElem_cons_zero, List.getElem_cons_succ, List.setIfInBounds_toArray, List.set_cons_zero, List.set_cons_succ]
      refine wpAnyH_ready (rs := [11]) (by kernel_rfl) (by simp) ?_
      refine AllReadyH.cons rfl (fun K' hK => ?_) AllReadyH.nil
      refine if_yes (by rfl) ?_
      try simp only [Act.put, List.getElem_toArray, List.getElem_cons_zero, List.getElem_cons_succ, List.setIfInBounds_toArray, List.set_cons_zero, List.set_cons_succ]
      refine wp_appP _ (.tmp 18) (.tmp 28) rfl (w.heap.size + 1) (.slice ao k co) (rowOf k (spF p)) rfl (by have := O.out; exact this) d.heap.size [x - y] 1 1 rfl hlit (by rw [rowOf_length]; simp; omega) (by omega) ?_
      intro v' w5 hv' hg' hpl
      have lt := O.out.lt
      have R := Lib.hid (R.out.far hg' (fun q hq e => by have := BR.out q hq; have := HB.out q e; omega))
      have V := Lib.hid (V.out.far hg' (fun q hq e => by have := BV.out q hq; have := HB.out q e; omega))
      have E := ext_grown E hg' (fun q hq => by have := lt q hq; omega)
      have hz := hg'.size
      have HB' : Hid (∀ q, v'.ownBlock = some q → q < W.heap.size ∨ w2.heap.size ≤ q) := fun q hq => by
        rcases hpl with h | h
        · exact HB.out q (h ▸ hq)
        · rw [h] at hq; injection hq with hq; omega
      refine hK.out _ _ ?_ (fun hHeld => ?_)
      · exact ⟨by rw [R.out.cellI (by rw [Hlt.out]; exact hlt), Hx.out], by rw [V.out.cellI (by rw [← hn.out]; exact hlt), Hy.out]⟩
      clear hK K'
      try simp only [Act.put, List.getElem_toArray, List.getElem_cons_zero, List.getElem_cons_succ, List.setIfInBounds_toArray, List.set_cons_zero, List.set_cons_succ]
      refine wpAnyH_done (by kernel_rfl) ?_ _
      refine tail_step rfl (fun K' hK => ?_)
      refine if_yes (by rfl) ?_
      try simp only [Act.put, List.getElem_toArray, List.getElem_cons_zero, List.getElem_cons_succ, List.setIfInBounds_toArray, List.set_cons_zero, List.set_cons_succ]
      go_simp
      refine hK _ _ ?_
      clear hK K'
      try simp only [Act.put, List.getElem_toArray, List.getElem_cons_zero, List.getElem_cons_succ, List.setIfInBounds_toArray, List.set_cons_zero, List.set_cons_succ]
      go_wp2_with fail
      go_roundg (n - (k+1))
      case rel =>
        refine ⟨k+1, by omega, rfl, by go_num, ?_, R, V, E, by omega, HB'⟩
        rw [rowOf_snoc, show spF p k = x - y by rw [Hx.out, Hy.out]; rfl]
        exact Lib.hid hv'
      case measure => have := Hk.out; omega
    · have hkn : n = k := by omega
      subst hkn
      go_wp2_with fail
      go_ret
      refine ⟨_, rfl, ?_, E⟩
      unfold Pj.sparesOf
      rw [← hn.out]
      exact O.out.base (by omega)
end Go.Proofs.Ytllicgomlohffaa
