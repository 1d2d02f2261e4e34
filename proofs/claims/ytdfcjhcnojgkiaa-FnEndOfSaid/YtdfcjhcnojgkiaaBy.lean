/- The walks of none, from, free, BeginsBy and GreedyBy of impl. Conditions: the numbers can be read; of the helpers: the project is one and the begins are small. -/
import Derived.Test.YtdfcjhcnojgkiaaOrder
namespace Go.Proofs.Ytdfcjhcnojgkiaa
open Go.RowKit
set_option linter.unusedVariables false
set_option linter.unusedSimpArgs false
/-- the first i of n numbers are -1 -/
def noneTo (n i : Nat) : List Int := List.replicate i (-1) ++ List.replicate (n - i) 0
theorem noneTo_length {n i : Nat} (h : i ≤ n) : (noneTo n i).length = n := by simp [noneTo]; omega
theorem noneTo_set {n i : Nat} (h : i < n) : (noneTo n i).set i (-1) = noneTo n (i+1) := by
  refine List.ext_getElem? fun j => ?_
  unfold noneTo
  rw [List.getElem?_set]
  by_cases hj : i = j
  · subst hj
    rw [if_pos rfl, List.length_append, List.length_replicate, List.length_replicate, if_pos (by omega), List.getElem?_append, List.length_replicate, if_pos (by omega), List.getElem?_replicate, if_pos (by omega)]
  · rw [if_neg hj, List.getElem?_append, List.getElem?_append, List.length_replicate, List.length_replicate]
    by_cases h1 : j < i
    · rw [if_pos h1, if_pos (by omega), List.getElem?_replicate, List.getElem?_replicate, if_pos h1, if_pos (by omega)]
    · rw [if_neg h1, if_neg (by omega), List.getElem?_replicate, List.getElem?_replicate]
      by_cases h2 : j < n
      · rw [if_pos (by omega), if_pos (by omega)]
      · rw [if_neg (by omega), if_neg (by omega)]
theorem noneTo_all (n : Nat) : noneTo n n = List.replicate n (-1) := by simp [noneTo]
theorem noneTo_zero (n : Nat) : noneTo n 0 = List.replicate n 0 := by simp [noneTo]
set_option maxRecDepth 100000 in
set_option maxHeartbeats 4000000 in
theorem impl_none (p : Pj) (v1 v2 : Value) (w : World) (h1 : Ints w 0 v1 p.lo) (h2 : Ints w 0 v2 p.af) (hl6 : p.lo.length ≤ 6) :
    Calls Try.prog 44 #[.agg #[v1, v2]] w (RetInts w (List.replicate p.lo.length (-1))) := by
  have H1 := Lib.hid h1; have H2 := Lib.hid h2
  obtain ⟨a1, c1, rfl, hn1, hc1, -⟩ := h1.open
  obtain ⟨a2, c2, rfl, hn2, hc2, -⟩ := h2.open
  obtain ⟨n, hn⟩ : ∃ n, Hid (n = p.lo.length) := ⟨_, rfl⟩
  obtain ⟨i0, hi, hz0, hz1, hz2⟩ := info_parts info_int
  have Hi := Lib.hid hi; have Hz0 := Lib.hid hz0; have Hz1 := Lib.hid hz1; have Hz2 := Lib.hid hz2
  rw [← hn.out] at hl6 hn1 ⊢
  clear h1 h2 hi hz0 hz1 hz2
  go_enter Try.func44, Try.ntmps44
  go_wp2_with (at_make; refine wpList_make_full _ rfl (.tmp 7) (.tmp 7) 22 rfl w.heap.size 3 i0 _ 1 Try.underlying22 Hi.out Hz0.out Hz1.out .i64 .i64 n n n rfl rfl rfl rfl (by rw [Hz2.out]; omega) (by unfold maxLen; omega) (by simp) ?_; intro w1 hown hgrow)
  have E := ext_grown (ext_alloc (ext_refl w) (.cells #[.slice a1 n c1, .slice a2 p.af.length c2] 27)) hgrow (by simp)
  have R : Hid (Ints w1 w.heap.size (.slice (some ⟨w.heap.size + 1, 0, none⟩) n n) (noneTo n 0)) := by
    show Ints _ _ _ _
    unfold Ints
    rw [noneTo_zero, ← ints_made, List.length_replicate]
    have h := hown
    rw [World.size_alloc] at h
    exact h
  clear hown hgrow
  go_loopg [11] n (fun m k wr => ∃ i : Nat, i ≤ n ∧ m = n - i ∧ k = .int .i64 i ∧ Hid (Ints wr w.heap.size (.slice (some ⟨w.heap.size + 1, 0, none⟩) n n) (noneTo n i)) ∧ Below w.heap.size w wr)
  case atStart => exact ⟨0, by omega, by omega, rfl, R, E⟩
  case round =>
    clear R E
    obtain ⟨i, hi, hgk, rfl, R, E⟩ := hrel
    have Hk := Lib.hid hgk
    clear hgk
    by_cases hlt : i < n
    · obtain ⟨_, hae, _, hgr, hfz, cx⟩ := R.out.at_ (j := i) (by rw [noneTo_length hi]; exact hlt)
      cases hae
      have R := Lib.hid (R.out.set i (-1))
      rw [noneTo_set hlt] at R
      go_wp2_with fail
      go_roundg (n - (i+1))
      case rel => exact ⟨i+1, by omega, rfl, by go_num, R, ext_set E (by dsimp only; omega) _⟩
      case measure => have := Hk.out; omega
    · have hin : i = n := by omega
      have R : Hid (Ints wr w.heap.size (.slice (some ⟨w.heap.size + 1, 0, none⟩) n n) (List.replicate n (-1))) := by rw [← noneTo_all, ← hin]; rw [← hin] at R; exact R
      clear hin
      go_wp2_with fail
      go_ret
      exact ⟨_, rfl, R.out, E⟩
/-- begins that can be worked with -/
def Smalls (p : Pj) (l : List Int) : Prop := l.length = p.lo.length ∧ ∀ j, j < l.length → -1 ≤ l.getD j 0 ∧ l.getD j 0 ≤ 900000
theorem startUp_small {p : Pj} {l : List Int} (hs : Smalls p l) (hL : ∀ k, k < p.lo.length → 1 ≤ p.L k ∧ p.L k ≤ 20) (t : Nat) : ∀ j, j ≤ p.lo.length → 0 ≤ startUp p.L p.A (lF l) t j ∧ startUp p.L p.A (lF l) t j ≤ 900020
  | 0, _ => by unfold startUp; omega
  | j+1, hj => by
    have ih := startUp_small hs hL t j (by omega)
    have h1 := hs.2 j (by rw [hs.1]; omega)
    have h2 := hL j (by omega)
    have e : lF l j = l.getD j 0 := rfl
    unfold startUp
    split <;> omega
def fromV (p : Pj) (l : List Int) (t : Nat) : Int := if p.pre l t then startUp p.L p.A (lF l) t t else 0
theorem Pj.A_in {p : Pj} (hl6 : p.lo.length ≤ 6) (hA : ∀ k, k < p.lo.length → 0 ≤ p.A k ∧ p.A k < 2 ^ k) {t : Nat} (ht : t < p.lo.length) : 0 ≤ p.A t ∧ p.A t ≤ 64 := by
  have key : ∀ m : Fin 7, (2 : Int) ^ m.val ≤ 64 := by decide
  have := key ⟨t, by omega⟩
  have := hA t ht
  dsimp only at *
  omega
set_option maxRecDepth 100000 in
set_option maxHeartbeats 4000000 in
theorem impl_from (p : Pj) (v1 v2 v3 : Value) (l : List Int) (t : Nat) (w : World) (h1 : Ints w 0 v1 p.lo) (h2 : Ints w 0 v2 p.af) (h3 : Ints w 0 v3 l) (hok : p.ok = true) (hs : Smalls p l) (ht : t < p.lo.length) :
    Calls Try.prog 46 #[.agg #[v1, v2], v3, .int .i64 t] w fun e w' => e = .returned (.tuple #[.int .i64 (fromV p l t), .bool (p.pre l t)]) ∧ Below w.heap.size w w' := by
  have H1 := Lib.hid h1; have H2 := Lib.hid h2; have H3 := Lib.hid h3
  obtain ⟨a1, c1, rfl, hn1, hc1, -⟩ := h1.open
  obtain ⟨a2, c2, rfl, hn2, hc2, -⟩ := h2.open
  obtain ⟨a3, c3, rfl, hn3, hc3, -⟩ := h3.open
  obtain ⟨hl6, haf, hLs, hAs⟩ := ok_upto hok
  have HLs := Lib.hid hLs; have Hs := Lib.hid hs; have Haf := Lib.hid haf
  have HA := Lib.hid (Pj.A_in hl6 hAs ht)
  have Hup := Lib.hid (startUp_small hs hLs t)
  obtain ⟨n, hn⟩ : ∃ n, Hid (n = p.lo.length) := ⟨_, rfl⟩
  have hn3' : Hid (l.length = n) := by rw [hn.out]; exact hs.1
  rw [← hn.out] at hl6 hn1 ht ⊢
  rw [hn3'.out] at hn3 ⊢
  clear h1 h2 h3 hok haf hLs hAs hs
  go_enter Try.func46, Try.ntmps46
  go_wp2_with fail
  obtain ⟨W, hW, A0, hs, E⟩ := one_box w #[.slice a1 n c1, .slice a2 p.af.length c2] 27
  rw [← hW.out]
  go_loopg [8, 11] t (fun m s kk wr => ∃ k : Nat, k ≤ t ∧ m = t - k ∧ kk = .int .i64 k ∧ s = .int .i64 (startUp p.L p.A (lF l) t k) ∧ Below W.heap.size W wr ∧ Hid (∀ c, c < k → bit (p.A t) c = true → lF l c ≠ -1))
  case atStart => exact ⟨0, by omega, by omega, rfl, rfl, ext_refl _, fun c hc => by omega⟩
  case round =>
    obtain ⟨k, hk, hgk, rfl, rfl, hb, Hall⟩ := hrel
    have Hk := Lib.hid hgk
    clear hgk
    have hsb := Hup.out k (by rw [← hn.out]; omega)
    obtain ⟨s, Hs1⟩ : ∃ s, Hid (s = startUp p.L p.A (lF l) t k) := ⟨_, rfl⟩
    rw [← Hs1.out] at hsb ⊢
    have A1 := A0.ext hb
    have E1 := ext_trans E hb
    obtain ⟨rc0, rz0⟩ := (A1).rules; have rl0 := (A1).lt
    by_cases hlt : k < t
    · have hkn : k < p.lo.length := by rw [← hn.out]; omega
      have hkl : k < l.length := by rw [hn3'.out]; omega
      obtain ⟨g3, ha3, _, hg3, _, cx⟩ := (H3.out.ext E1).at_ hkl
      subst ha3
      obtain ⟨g1, ha1, _, hg1, _, cy⟩ := (H1.out.ext E1).at_ hkn
      subst ha1
      have hy := HLs.out k hkn
      have hx := Hs.out.2 k hkl
      obtain ⟨x, Hx⟩ : ∃ x, Hid (x = lF l k) := ⟨_, rfl⟩
      obtain ⟨y, Hy⟩ : ∃ y, Hid (y = p.L k) := ⟨_, rfl⟩
      rw [show l.getD k 0 = x from Hx.out.symm] at cx hx
      rw [show p.lo.getD k 0 = y from Hy.out.symm] at cy
      rw [← Hy.out] at hy
      have hnext : Hid (startUp p.L p.A (lF l) t (k+1) = if bit (p.A t) k then max s (x + y) else s) := by rw [Hx.out, Hy.out, Hs1.out]; exact Lib.hid rfl
      have haft : Hid (∀ wx, Below wr.heap.size wr wx → Calls Try.prog 37 #[.agg #[.slice (some ⟨g1, 0, none⟩) n c1, .slice a2 p.af.length c2], .int .i64 t, .int .i64 k] wx fun e w' => e = .returned (.bool (bit (p.A t) k)) ∧ Below wx.heap.size wx w') := by
        intro wx hbx
        refine impl_after p _ _ t k wx (by rw [hn.out]; exact (H1.out.ext E1).ext hbx) ((H2.out.ext E1).ext hbx) (by rw [Haf.out, ← hn.out]; exact ht) (by omega) (by have := HA.out; omega)
      clear hkn hkl
      go_wp2_with fail
      refine (haft.out _ (ext_refl _)).mono ?_
      rintro e w3 ⟨rfl, hb3⟩
      have hb := ext_trans hb hb3
      have A2 := A1.ext hb3
      have cx := (hb3.cell (by exact hg3)).trans cx
      have cy := (hb3.cell (by exact hg1)).trans cy
      have hg3 := Nat.lt_of_lt_of_le hg3 hb3.size
      have hg1 := Nat.lt_of_lt_of_le hg1 hb3.size
      clear rc0 rz0 rl0 hb3 A1 E1
      have E1 := ext_trans E hb
      obtain ⟨rc0, rz0⟩ := (A2).rules; have rl0 := (A2).lt
      cases hbit : bit (p.A t) k
      · have Hbit := Lib.hid hbit
        have Hnx : Hid (startUp p.L p.A (lF l) t (k+1) = s) := by rw [hnext.out, hbit]; exact Lib.hid rfl
        clear hbit
        go_wp2_with fail
        go_roundg (t - (k+1))
        case rel =>
          refine ⟨k+1, by omega, rfl, by go_num, by rw [Hnx.out], hb, Lib.hid fun c hc hbc => ?_⟩
          by_cases hck : c = k
          · subst hck; rw [Hbit.out] at hbc; cases hbc
          · exact Hall.out c (by omega) hbc
        case measure => have := Hk.out; omega
      · have Hbit := Lib.hid hbit
        clear hbit
        by_cases hx1 : x = -1
        · have hxe : (x == -1) = true := by simp [hx1]
          have Hpre : Hid (p.pre l t = false) := Lib.hid (pre_not hlt Hbit.out (by rw [← Hx.out]; exact hx1))
          have Hv : Hid (fromV p l t = 0) := Lib.hid (if_neg (by rw [Hpre.out]; simp))
          have Hx1 := Lib.hid hx1
          clear hx1
          go_wp2_with fail
          go_ret2
          exact ⟨by rw [Hv.out, Hpre.out]; rfl, E1⟩
        · have hxe : (x == -1) = false := by simp [hx1]
          have Hx1 := Lib.hid hx1
          clear hx1
          have hw : IntKind.i64.wrap (x + y) = x + y := IntWalk.i64_in _ (by omega)
          go_wp2_with fail
          by_cases hmx : x + y ≤ s
          · have Hnx : Hid (startUp p.L p.A (lF l) t (k+1) = s) := by rw [hnext.out, Hbit.out, if_pos rfl, Int.max_eq_left hmx]; exact Lib.hid rfl
            go_quiet (fail)
            go_wp2_with fail
            go_roundg (t - (k+1))
            case rel =>
              refine ⟨k+1, by omega, rfl, by go_num, by rw [Hnx.out], ext_trans hb (ext_drewN3 _ _), Lib.hid fun c hc hbc => ?_⟩
              by_cases hck : c = k
              · subst hck; rw [← Hx.out]; exact Hx1.out
              · exact Hall.out c (by omega) hbc
            case measure => have := Hk.out; omega
          · have Hnx : Hid (startUp p.L p.A (lF l) t (k+1) = x + y) := by rw [hnext.out, Hbit.out, if_pos rfl, Int.max_eq_right (by omega)]; exact Lib.hid rfl
            go_quiet (fail)
            go_wp2_with fail
            go_roundg (t - (k+1))
            case rel =>
              refine ⟨k+1, by omega, rfl, by go_num, by rw [Hnx.out], ext_trans hb (ext_drewN3 _ _), Lib.hid fun c hc hbc => ?_⟩
              by_cases hck : c = k
              · subst hck; rw [← Hx.out]; exact Hx1.out
              · exact Hall.out c (by omega) hbc
            case measure => have := Hk.out; omega
    · have hkt : k = t := by omega
      have Hpre : Hid (p.pre l t = true) := Lib.hid (pre_iff.2 fun c hc hbc => Hall.out c (by omega) hbc)
      have Hv : Hid (fromV p l t = s) := by unfold fromV; rw [Hpre.out, if_pos rfl, Hs1.out, hkt]; exact Lib.hid rfl
      clear hkt
      go_wp2_with fail
      go_ret2
      exact ⟨by rw [Hv.out, Hpre.out]; rfl, E1⟩
set_option maxRecDepth 100000 in
set_option maxHeartbeats 4000000 in
theorem impl_free (p : Pj) (v1 v2 v3 : Value) (l : List Int) (h : Int) (t : Nat) (s : Int) (w : World) (h1 : Ints w 0 v1 p.lo) (h2 : Ints w 0 v2 p.af) (h3 : Ints w 0 v3 l) (hok : p.ok = true) (hs : Smalls p l) (ht : t < p.lo.length) (hs0 : -1000 ≤ s ∧ s ≤ 1000000) :
    Calls Try.prog 48 #[.agg #[v1, v2], v3, .int .i64 h, .int .i64 t, .int .i64 s] w fun e w' => e = .returned (.bool (p.free l h t s)) ∧ Below w.heap.size w w' := by
  have H1 := Lib.hid h1; have H2 := Lib.hid h2; have H3 := Lib.hid h3; have Hok := Lib.hid hok; have Hs := Lib.hid hs
  obtain ⟨a1, c1, rfl, hn1, hc1, -⟩ := h1.open
  obtain ⟨a2, c2, rfl, hn2, hc2, -⟩ := h2.open
  obtain ⟨a3, c3, rfl, hn3, hc3, -⟩ := h3.open
  have hy := (ok_upto hok).2.2.1 t ht
  obtain ⟨y, Hy⟩ : ∃ y, Hid (y = p.L t) := ⟨_, rfl⟩
  rw [← Hy.out] at hy
  obtain ⟨n, hn⟩ : ∃ n, Hid (n = p.lo.length) := ⟨_, rfl⟩
  have hn3' : Hid (l.length = n) := by rw [hn.out]; exact hs.1
  have Ht := Lib.hid ht
  rw [← hn.out] at hn1 ht ⊢
  rw [hn3'.out] at hn3 ⊢
  clear h1 h2 h3 hok hs
  have hfree : Hid (p.free l h t s = true ↔ ∀ d : Nat, (d : Int) < y → busyTo (lF l) p.L (s + d) n < h) := by rw [Hy.out, hn.out]; exact Lib.hid free_iff
  go_enter Try.func48, Try.ntmps48
  go_wp2_with fail
  obtain ⟨W, hW, A0, hs, E⟩ := one_box w #[.slice a1 n c1, .slice a2 p.af.length c2] 27
  rw [← hW.out]
  have hbusy : Hid (∀ r wx, Below W.heap.size W wx → Calls Try.prog 38 #[.agg #[.slice a1 n c1, .slice a2 p.af.length c2], .slice a3 n c3, .int .i64 r] wx fun e w' => e = .returned (.int .i64 (busyTo (lF l) p.L r n)) ∧ Below wx.heap.size wx w') := by
    intro r wx hb
    rw [hn.out]
    have h3 := (H3.out.ext E).ext hb
    rw [hn3'.out, hn.out] at h3
    exact impl_busy p _ _ _ l r wx ((H1.out.ext E).ext hb) ((H2.out.ext E).ext hb) h3 Hok.out Hs.out.1 Hs.out.2
  go_loopg [11] y.toNat (fun m ss wr => ∃ d : Nat, (d : Int) ≤ y ∧ m = y.toNat - d ∧ ss = .int .i64 (s + d) ∧ Below W.heap.size W wr ∧ Hid (∀ c : Nat, c < d → busyTo (lF l) p.L (s + c) n < h))
  case atStart => exact ⟨0, by omega, by omega, by simp, ext_refl _, fun c hc => by omega⟩
  case round =>
    obtain ⟨d, hd, hgk, rfl, hb, Hall⟩ := hrel
    have Hk := Lib.hid hgk
    clear hgk
    have A1 := A0.ext hb
    have E1 := ext_trans E hb
    obtain ⟨rc0, rz0⟩ := (A1).rules; have rl0 := (A1).lt
    obtain ⟨g1, ha1, _, hg1, _, cy⟩ := (H1.out.ext E1).at_ Ht.out
    subst ha1
    rw [show p.lo.getD t 0 = y from Hy.out.symm] at cy
    have hw : IntKind.i64.wrap (s + y) = s + y := IntWalk.i64_in _ (by omega)
    by_cases hlt : (d : Int) < y
    · have hlt2 : s + (d : Int) < s + y := by omega
      go_wp2_with fail
      refine (hbusy.out (s + d) _ hb).mono ?_
      rintro e w3 ⟨rfl, hb3⟩
      have hb := ext_trans hb hb3
      clear rc0 rz0 rl0 hb3 A1 E1
      obtain ⟨b, Hb⟩ : ∃ b, Hid (b = busyTo (lF l) p.L (s + d) n) := ⟨_, rfl⟩
      rw [← Hb.out]
      by_cases hbh : h ≤ b
      · have hF : Hid (p.free l h t s = false) := by
          refine Lib.hid (free_not (d := d) (by rw [← Hy.out]; exact hlt) ?_)
          rw [← hn.out, ← Hb.out]; exact hbh
        have hd1 : decide (h ≤ b) = true := decide_eq_true hbh
        go_wp2_with fail
        go_ret
        exact ⟨by rw [hF.out]; rfl, ext_trans E hb⟩
      · have hd1 : decide (h ≤ b) = false := decide_eq_false hbh
        have hd2 : b < h := by omega
        have hw2 : IntKind.i64.wrap (s + (d : Int) + 1) = s + ((d+1 : Nat) : Int) := by rw [IntWalk.i64_in _ (by omega)]; omega
        go_wp2_with fail
        go_roundg (y.toNat - (d+1))
        case rel =>
          refine ⟨d+1, by omega, rfl, by simp, hb, Lib.hid fun c hc => ?_⟩
          by_cases hcd : c = d
          · subst hcd; rw [← Hb.out]; exact hd2
          · exact Hall.out c (by omega)
        case measure => have := Hk.out; omega
    · have hlt2 : ¬ (s + (d : Int) < s + y) := by omega
      have hF : Hid (p.free l h t s = true) := Lib.hid (hfree.out.2 fun c hc => Hall.out c (by omega))
      go_wp2_with fail
      go_ret
      exact ⟨by rw [hF.out]; rfl, E1⟩
end Go.Proofs.Ytdfcjhcnojgkiaa
