/- The walks of ChainOf, of impl and of spec. No condition but that the numbers can be read. -/
import Derived.Test.YtllicgomlohffaaChainMath
import Derived.Test.YtllicgomlohffaaRev
namespace Go.Proofs.Ytllicgomlohffaa
open Go.RowKit
set_option linter.unusedVariables false
set_option linter.unusedSimpArgs false
def ints (l : List Nat) : List Int := l.map (fun (k : Nat) => (k : Int))
theorem ints_length (l : List Nat) : (ints l).length = l.length := by simp [ints]
theorem ints_app (l l' : List Nat) : ints (l ++ l') = ints l ++ ints l' := by simp [ints]
theorem ints_rev (l : List Nat) : (ints l).reverse = ints l.reverse := by simp [ints]
theorem ints_getD (l : List Nat) (j : Nat) : (ints l).getD j 0 = ((l.getD j 0 : Nat) : Int) := by
  simp only [ints, List.getD_eq_getElem?_getD, List.getElem?_map]
  cases l[j]? <;> rfl
def eF (p : Pj) : Nat → Int := fun j => p.early.getD j 0
def Pj.chain (p : Pj) : List Nat := if p.ok = true ∧ 0 < p.lo.length then (backOf p.L p.A (eF p) (lastOf p.L (eF p) p.lo.length)).reverse else []
/-- a cell that is made and written -/
theorem box_put (w : World) (x v : Value) (t : TypeId) : ∃ W, Hid (W = (w.alloc (.cells #[x] t)).setCell ⟨w.heap.size, 0, none⟩ v) ∧ Box W w.heap.size t #[v] ∧ w.heap.size + 1 ≤ W.heap.size ∧ Below w.heap.size w W :=
  ⟨_, rfl, (Box.new w t #[x]).set 0 v, by simp [World.setCell], ext_set (ext_alloc (ext_refl _) _) (Nat.le_refl _) _⟩
set_option maxHeartbeats 2000000 in
theorem impl_ends (p : Pj) (v1 v2 v3 : Value) (i E A : Nat) (t : Int) (w : World) (h1 : Ints w 0 v1 p.lo) (h3 : Ints w 0 v3 p.early) (hi : i < p.lo.length) (hok : p.ok = true)
    (bE : Box w E 22 #[v3]) (bA : Box w A 27 #[v1, v2]) :
    Calls Try.prog 60 #[.int .i64 i, .int .i64 t, .pointer (some ⟨E, 0, none⟩), .pointer (some ⟨A, 0, none⟩)] w fun e w' => e = .returned (.bool (eF p i + p.L i == t)) ∧ Below w.heap.size w w' := by
  have H1 := Lib.hid h1; have H3 := Lib.hid h3
  have hx := early_in hok i (by rw [early_len]; exact hi)
  have hy := (ok_upto hok).2.2.1 i hi
  have hie : i < p.early.length := by rw [early_len]; exact hi
  obtain ⟨a1, c1, rfl, hn1, hc1, -⟩ := h1.open
  obtain ⟨a3, c3, rfl, hn3, hc3, -⟩ := h3.open
  clear h1 h3 hok
  obtain ⟨g1, rfl, _, hg1, _, cy⟩ := H1.out.at_ hi
  obtain ⟨g3, rfl, _, hg3, _, cx⟩ := H3.out.at_ hie
  obtain ⟨x, Hx⟩ : ∃ x, Hid (x = eF p i) := ⟨_, rfl⟩
  obtain ⟨y, Hy⟩ : ∃ y, Hid (y = p.L i) := ⟨_, rfl⟩
  rw [show p.early.getD i 0 = x from Hx.out.symm] at cx hx
  rw [show p.lo.getD i 0 = y from Hy.out.symm] at cy
  rw [← Hy.out] at hy ⊢
  rw [← Hx.out]
  obtain ⟨rc0, rz0⟩ := (bE).rules; have rl0 := (bE).lt
  obtain ⟨rc1, rz1⟩ := (bA).rules; have rl1 := (bA).lt
  have hw : IntKind.i64.wrap (x + y) = x + y := IntWalk.i64_in _ (by omega)
  go_enter Try.func60, Try.ntmps60
  go_wp2_with fail
  go_quiet (fail)
  go_wp2_with fail
  go_ret
  exact ⟨rfl, ext_drewN _ _⟩
set_option maxRecDepth 100000 in
set_option maxHeartbeats 4000000 in
theorem impl_ChainOf (p : Pj) (v1 v2 : Value) (w : World) (h1 : Ints w 0 v1 p.lo) (h2 : Ints w 0 v2 p.af) :
    Calls Try.prog 38 #[.agg #[v1, v2]] w (RetInts w (ints p.chain)) := by
  have H1 := Lib.hid h1; have H2 := Lib.hid h2
  obtain ⟨a1, c1, rfl, hn1, hc1, -⟩ := h1.open
  obtain ⟨a2, c2, rfl, hn2, hc2, -⟩ := h2.open
  clear h1 h2
  obtain ⟨n, hn⟩ : ∃ n, Hid (n = p.lo.length) := ⟨_, rfl⟩
  rw [← hn.out] at hn1 ⊢
  by_cases hz : n = 0
  · have hz0 : ((n : Int) == 0) = true := by simp [hz]
    have Hz := Lib.hid hz
    clear hz
    have Hc : Hid (p.chain = []) := if_neg (by have := Hz.out; have := hn.out; omega)
    go_enter Try.func38, Try.ntmps38
    go_wp2_with fail
    obtain ⟨W, hW, A0, hs, E⟩ := one_box w #[.slice a1 n c1, .slice a2 p.af.length c2] 27
    rw [← hW.out]
    refine (impl_ProjectOk p (.slice a1 n c1) (.slice a2 p.af.length c2) _ (by have := H1.out.ext E; rw [hn.out]; exact this) (H2.out.ext E)).mono ?_
    rintro e w1 ⟨rfl, hb1⟩
    have A0 := A0.ext hb1
    have E := ext_trans E hb1
    obtain ⟨rc0, rz0⟩ := (A0).rules; have rl0 := (A0).lt
    cases hok : p.ok
    · go_wp2_with fail
      go_ret
      exact ⟨_, rfl, by rw [Hc.out]; exact Ints.nil _ _, E⟩
    · go_wp2_with fail
      go_ret
      exact ⟨_, rfl, by rw [Hc.out]; exact Ints.nil _ _, E⟩
  have hz0 : ((n : Int) == 0) = false := beq_false_of_ne (by omega)
  have hn0 : 0 < n := by omega
  clear hz
  go_enter Try.func38, Try.ntmps38
  go_wp2_with fail
  obtain ⟨W, hW, A0, hs, E⟩ := one_box w #[.slice a1 n c1, .slice a2 p.af.length c2] 27
  rw [← hW.out]
  refine (impl_ProjectOk p (.slice a1 n c1) (.slice a2 p.af.length c2) _ (by have := H1.out.ext E; rw [hn.out]; exact this) (H2.out.ext E)).mono ?_
  rintro e w1 ⟨rfl, hb1⟩
  have A0 := A0.ext hb1
  have E := ext_trans E hb1
  have q1 := hb1.size
  clear hb1
  obtain ⟨rc0, rz0⟩ := (A0).rules; have rl0 := (A0).lt
  cases hok : p.ok
  · have Hok := Lib.hid hok
    clear hok
    go_wp2_with fail
    go_ret
    exact ⟨_, rfl, by rw [show p.chain = [] from if_neg (by simp [Hok.out])]; exact Ints.nil _ _, E⟩
  have Hok := Lib.hid hok
  clear hok
  go_wp2_with fail
  refine (impl_early p (.slice a1 n c1) (.slice a2 p.af.length c2) _ (by have := H1.out.ext E; rw [hn.out]; exact this) (H2.out.ext E) Hok.out).mono ?_
  rintro e w2 ⟨v3, rfl, h3, hb2⟩
  obtain ⟨a3, c3, rfl, hn3, hc3, -⟩ := h3.open
  have H3 := Lib.hid h3
  rw [early_len, ← hn.out] at hn3 H3 ⊢
  have A0 := A0.ext hb2
  have E := ext_trans E hb2
  have q2 := hb2.size
  clear h3 hb2 rc0 rz0 rl0
  go_wp2_with fail
  obtain ⟨w3, hw3, X0, hs3, E3⟩ := one_box w2 #[.slice a3 n c3] 22
  rw [← hw3.out]
  have H3 := Lib.hid (H3.out.ext E3)
  have A0 := A0.ext E3
  have E := ext_trans E E3
  have eE : IsEarly p.L p.A p.lo.length (eF p) := early_is p
  have HLs := Lib.hid ((ok_upto Hok.out).2.2.1)
  have HAs := Lib.hid ((ok_upto Hok.out).2.2.2)
  have haf : Hid (p.af.length = n) := by rw [hn.out]; exact Lib.hid (ok_upto Hok.out).2.1
  have hn6 : n ≤ 6 := by rw [hn.out]; exact (ok_upto Hok.out).1
  have Hlast := Lib.hid (last_at eE (by rw [← hn.out]; exact hn0) (fun j hj => (HLs.out j hj).1))
  have EE := Lib.hid eE
  have Hin := Lib.hid (early_in Hok.out)
  clear eE E3 hw3
  have hends : Hid (∀ i t wx, i < n → Below w3.heap.size w3 wx → Calls Try.prog 60 #[.int .i64 i, .int .i64 t, .pointer (some ⟨w2.heap.size, 0, none⟩), .pointer (some ⟨w.heap.size, 0, none⟩)] wx fun e w' => e = .returned (.bool (eF p i + p.L i == t)) ∧ Below wx.heap.size wx w') := by
    intro i t wx hi hb
    exact impl_ends p (.slice a1 n c1) (.slice a2 p.af.length c2) (.slice a3 n c3) i w2.heap.size w.heap.size t wx (by have := (H1.out.ext E).ext hb; rw [hn.out]; exact this) ((H3.out.ext hb).base (Nat.zero_le _)) (by rw [← hn.out]; exact hi) Hok.out (X0.ext hb) (A0.ext hb)
  have hafter : Hid (∀ i k wx, i < n → k < n → Below w3.heap.size w3 wx → Calls Try.prog 59 #[.agg #[.slice a1 n c1, .slice a2 p.af.length c2], .int .i64 i, .int .i64 k] wx fun e w' => e = .returned (.bool (bit (p.A i) k)) ∧ Below wx.heap.size wx w') := by
    intro i k wx hi hk hb
    have hAi := HAs.out i (by rw [← hn.out]; exact hi)
    exact impl_after p (.slice a1 n c1) (.slice a2 p.af.length c2) i k wx (by have := (H1.out.ext E).ext hb; rw [hn.out]; exact this) ((H2.out.ext E).ext hb) (by have := haf.out; omega) (by omega) ⟨hAi.1, by have := two_pow_in i (by omega); omega⟩
  have hend : Hid (∀ wx, Below w3.heap.size w3 wx → Calls Try.prog 50 #[.agg #[.slice a1 n c1, .slice a2 p.af.length c2], .slice a3 n c3] wx fun e w' => e = .returned (.int .i64 (endUp p.L (eF p) n)) ∧ Below wx.heap.size wx w') := by
    intro wx hb
    rw [hn.out]
    exact impl_end p (.slice a1 p.lo.length c1) (.slice a2 p.af.length c2) (.slice a3 p.lo.length c3) p.early wx ((H1.out.ext E).ext hb) ((H2.out.ext E).ext hb) (by have := (H3.out.ext hb).base (Nat.zero_le _); rw [hn.out] at this; exact this) Hok.out (early_len p) (fun j hj => by have := Hin.out j hj; omega)
  obtain ⟨la, Hla⟩ : ∃ x, Hid (x = lastOf p.L (eF p) n) := ⟨_, rfl⟩
  have hla : la < n := by rw [Hla.out, hn.out]; exact Hlast.out.1
  have hlaE : Hid (eF p la + p.L la = endUp p.L (eF p) n) := by rw [Hla.out, hn.out]; exact Lib.hid Hlast.out.2
  have hnot : Hid (∀ k, k < la → (eF p k + p.L k == endUp p.L (eF p) n) = false) := by
    rw [Hla.out]
    exact fun k hk => least_not (P := fun k => eF p k + p.L k == endUp p.L (eF p) n) hk
  obtain ⟨ln, hln⟩ : ∃ x, Hid (x = endUp p.L (eF p) n) := ⟨_, rfl⟩
  rw [← hln.out] at hlaE hnot hend
  clear Hlast
  go_loopg [6] la (fun m kk wr => ∃ k : Nat, k ≤ la ∧ m = la - k ∧ kk = .int .i64 k ∧ Below w3.heap.size w3 wr)
  case atStart => exact ⟨0, by omega, by omega, rfl, ext_refl _⟩
  case round =>
    obtain ⟨k, hk, hgk, rfl, hb⟩ := hrel
    have Hk := Lib.hid hgk
    clear hgk
    have A1 := A0.ext hb
    have X1 := X0.ext hb
    obtain ⟨rc0, rz0⟩ := (A1).rules; have rl0 := (A1).lt
    obtain ⟨rc1, rz1⟩ := (X1).rules; have rl1 := (X1).lt
    have hkn : k < n := by omega
    go_wp2_with fail
    refine (hend.out _ hb).mono ?_
    rintro e w4 ⟨rfl, hb4⟩
    have hb := ext_trans hb hb4
    clear rc0 rz0 rl0 rc1 rz1 rl1 A1 X1 hb4
    go_wp2_with fail
    refine (hends.out k ln _ hkn hb).mono ?_
    rintro e w5 ⟨rfl, hb5⟩
    have hb := ext_trans hb hb5
    clear hb5
    by_cases hkl : k < la
    · rw [hnot.out k hkl]
      go_wp2_with fail
      go_roundg (la - (k+1))
      case rel => exact ⟨k+1, by omega, rfl, by go_num, hb⟩
      case measure => have := Hk.out; omega
    · obtain rfl : k = la := by omega
      rw [show (eF p k + p.L k == ln) = true by rw [hlaE.out]; exact beq_self_eq_true _]
      go_wp2_with (at_builtin; refine wpl_appI _ rfl (.tmp 29) (.tmp 31) rfl w3.heap.size 0 (.slice none 0 0) [] rfl ((Ints.nil w5 w3.heap.size).alloc _) (.slice (some ⟨w5.heap.size, 0, none⟩) 1 1) [(k : Int)] rfl ((Ints.lit w5 k).base (Nat.zero_le _)) (by simp) (by have := hb.size; simp; omega) ?_; intro v6 w6 hv6 hg6)
      have q5 := hb.size
      have hb := ext_grown (ext_alloc hb _) hg6 (fun q hq => by simp [Value.ownBlock] at hq)
      have R := Lib.hid hv6
      clear hv6 hg6
      obtain ⟨full, Hfull⟩ : ∃ l : List Nat, Hid (l = backOf p.L p.A (eF p) k) := ⟨_, rfl⟩
      go_loopg [5, 6] k (fun m vo ii wr => ∃ (i : Nat) (pre : List Nat), i < n ∧ m = i ∧ ii = .int .i64 i ∧ Hid (full = pre ++ backOf p.L p.A (eF p) i) ∧ pre.length + i ≤ 6 ∧ Hid (Ints wr w3.heap.size vo (ints (pre ++ [i]))) ∧ Below w3.heap.size w3 wr)
      case atStart => exact ⟨k, [], hkn, rfl, rfl, by rw [Hfull.out]; exact Lib.hid rfl, by simp; omega, R, hb⟩
      case round =>
        clear R hb hk
        obtain ⟨i, pre, hi, hgk, rfl, Hf, hpre, R, hb⟩ := hrel
        have Hi := Lib.hid hgk
        clear hgk
        have A1 := A0.ext hb
        have X1 := X0.ext hb
        obtain ⟨rc0, rz0⟩ := (A1).rules; have rl0 := (A1).lt
        obtain ⟨rc1, rz1⟩ := (X1).rules; have rl1 := (X1).lt
        have hie : i < p.early.length := by rw [early_len, ← hn.out]; exact hi
        obtain ⟨g3, ha3, _, hg3, _, cx⟩ := (H3.out.ext hb).at_ hie
        subst ha3
        obtain ⟨x, Hx⟩ : ∃ x, Hid (x = eF p i) := ⟨_, rfl⟩
        have hx := Hin.out i hie
        rw [show p.early.getD i 0 = x from Hx.out.symm] at cx hx
        clear hie
        by_cases h0 : 0 < x
        · have hprev := Lib.hid (prev_at EE.out (by rw [← hn.out]; exact hi) (show 0 < eF p i by rw [← Hx.out]; exact h0))
          have hmore : Hid (backOf p.L p.A (eF p) i = i :: backOf p.L p.A (eF p) (prevOf p.L p.A (eF p) i)) := Lib.hid (back_more EE.out (by rw [← hn.out]; exact hi) (show 0 < eF p i by rw [← Hx.out]; exact h0))
          obtain ⟨pr, Hpr⟩ : ∃ b, Hid (b = prevOf p.L p.A (eF p) i) := ⟨_, rfl⟩
          rw [← Hpr.out] at hprev hmore
          have hpri : pr < i := hprev.out.1
          have hbelow : Hid (∀ b, b < pr → (bit (p.A i) b && (eF p b + p.L b == eF p i)) = false) := by
            rw [Hpr.out]; exact fun b hb => least_not (P := fun b => bit (p.A i) b && (eF p b + p.L b == eF p i)) hb
          go_wp2_with fail
          clear rc0 rz0 rl0 rc1 rz1 rl1 A1 X1 cx
          rename World => wr
          go_loopg [7] pr (fun m bb wx => ∃ b : Nat, b ≤ pr ∧ m = pr - b ∧ bb = .int .i64 b ∧ Below wr.heap.size wr wx)
          case atStart => exact ⟨0, by omega, by omega, rfl, ext_refl _⟩
          case round =>
            rename World => wx
            obtain ⟨b, hbp, hgk, rfl, hbx⟩ := hrel
            have Hb := Lib.hid hgk
            clear hgk
            have hb2 := ext_trans hb hbx
            have A1 := A0.ext hb2
            obtain ⟨rc0, rz0⟩ := (A1).rules; have rl0 := (A1).lt
            have hbn : b < n := by omega
            go_wp2_with fail
            refine (hafter.out i b _ hi hbn hb2).mono ?_
            rintro e w7 ⟨rfl, hb7⟩
            have hb2 := ext_trans hb2 hb7
            have hbx := ext_trans hbx hb7
            have hne := hbelow.out b
            clear rc0 rz0 rl0 A1 hb7
            cases hbit : bit (p.A i) b
            · have Hbit := Lib.hid hbit
              clear hbit hne
              have hbl : b < pr := by
                rcases Nat.lt_or_ge b pr with h | h
                · exact h
                · exfalso
                  obtain rfl : b = pr := by omega
                  have := hprev.out.2.1
                  rw [Hbit.out] at this
                  cases this
              go_wp2_with fail
              go_roundg (pr - (b+1))
              case rel => exact ⟨b+1, by omega, rfl, by go_num, hbx⟩
              case measure => have := Hb.out; omega
            · have Hbit := Lib.hid hbit
              have Hne := Lib.hid hne
              clear hbit hne
              have X1 := X0.ext hb2
              obtain ⟨rc1, rz1⟩ := (X1).rules; have rl1 := (X1).lt
              have hie : i < p.early.length := by rw [early_len, ← hn.out]; exact hi
              obtain ⟨g4, ha4, _, hg4, _, cx⟩ := (H3.out.ext hb2).at_ hie
              cases ha4
              rw [show p.early.getD i 0 = x from Hx.out.symm] at cx
              clear hie
              go_wp2_with fail
              refine (hends.out b x _ hbn hb2).mono ?_
              rintro e w8 ⟨rfl, hb8⟩
              have hb2 := ext_trans hb2 hb8
              have hbx := ext_trans hbx hb8
              clear rc1 rz1 rl1 X1 hb8 cx
              by_cases hbl : b < pr
              · rw [show (eF p b + p.L b == x) = false by have := Hne.out hbl; rw [Hbit.out, Bool.true_and, ← Hx.out] at this; exact this]
                go_wp2_with fail
                go_roundg (pr - (b+1))
                case rel => exact ⟨b+1, by omega, rfl, by go_num, hbx⟩
                case measure => have := Hb.out; omega
              · obtain rfl : b = pr := by omega
                rw [show (eF p b + p.L b == x) = true by rw [hprev.out.2.2, ← Hx.out]; exact beq_self_eq_true _]
                have R2 := Lib.hid (R.out.ext hbx)
                obtain ⟨ao, co, hvo, -⟩ := R2.out.open
                rw [ints_length, List.length_append, List.length_singleton] at hvo
                subst hvo
                go_wp2_with (at_builtin; refine wpl_appI _ rfl (.tmp 56) (.tmp 58) rfl w3.heap.size 0 (.slice ao (pre.length + 1) co) (ints (pre ++ [i])) rfl (R2.out.alloc _) (.slice (some ⟨w8.heap.size, 0, none⟩) 1 1) [(b : Int)] rfl ((Ints.lit w8 b).base (Nat.zero_le _)) (by rw [ints_length, List.length_append]; simp; omega) (by have := hb2.size; simp; omega) ?_; intro v9 w9 hv9 hg9)
                have hb9 := ext_grown (ext_alloc hb2 _) hg9 (fun q hq => (R2.out.lt q hq).1)
                go_roundg b
                case rel =>
                  refine ⟨b, pre ++ [i], hbn, rfl, rfl, ?_, by simp; omega, ?_, hb9⟩
                  · rw [Hf.out, hmore.out, List.append_assoc]; exact Lib.hid rfl
                  · rw [ints_app]; exact Lib.hid hv9
                case measure => have := Hi.out; omega
        · have hend : Hid (backOf p.L p.A (eF p) i = [i]) := Lib.hid (back_end (by rw [← Hx.out]; omega))
          have R2 := R
          obtain ⟨ao, co, hvo, -⟩ := R2.out.open
          rw [ints_length, List.length_append, List.length_singleton] at hvo
          subst hvo
          go_wp2_with fail
          refine (slices_Reverse _ (ints (pre ++ [i])) w3.heap.size _ R2.out (by rw [ints_length]; simp; omega)).mono ?_
          rintro e w9 ⟨rfl, hr9, hb9⟩
          go_wp2_with fail
          go_ret
          refine ⟨_, rfl, ?_, ?_⟩
          · rw [show p.chain = (pre ++ [i]).reverse by
              rw [Pj.chain, if_pos ⟨Hok.out, by rw [← hn.out]; exact hn0⟩, ← hn.out, ← Hla.out, ← Hfull.out, Hf.out, hend.out], ← ints_rev]
            exact hr9.base (by have := E.size; omega)
          · have q := E.size
            exact (E.trans (hb.mono (by omega))).trans (hb9.mono (by omega))
end Go.Proofs.Ytllicgomlohffaa
