/- The walk of spec.ChainOf. No condition but that the numbers can be read. -/
import Derived.Test.YtllicgomlohffaaChain
namespace Go.Proofs.Ytllicgomlohffaa
open Go.RowKit
set_option linter.unusedVariables false
set_option linter.unusedSimpArgs false
/-- what is looked for: the last number's bits, and an end -/
def pick1 (p : Pj) (nx nd : Int) : Nat → Bool := fun k => bit nx k && (eF p k + p.L k == nd)
theorem least_ext {P : Nat → Bool} {m n : Nat} (h : leastLt P m < m) (hn : m ≤ n) : leastLt P n = leastLt P m := by
  have h1 : leastLt P n ≤ leastLt P m := least_lt (by omega) (least_at h)
  have h2 : leastLt P m ≤ leastLt P n := least_lt (by omega) (least_at (by omega))
  omega
theorem top_bit {n k : Nat} (hn : n ≤ 6) (hk : k < n) : bit (topOf n) k = true := by
  have key : ∀ a : Fin 7, ∀ b : Fin 7, b.val < a.val → bit (topOf a.val) b.val = true := by decide
  exact key ⟨n, by omega⟩ ⟨k, by omega⟩ hk
theorem top_64 {n : Nat} (hn : n ≤ 6) : 0 ≤ topOf n ∧ topOf n ≤ 64 := by
  have key : ∀ a : Fin 7, 0 ≤ topOf a.val ∧ topOf a.val ≤ 64 := by decide
  exact key ⟨n, by omega⟩
theorem first_last {p : Pj} {n : Nat} (hn : n ≤ 6) : leastLt (pick1 p (topOf n) (endUp p.L (eF p) n)) n = lastOf p.L (eF p) n := by
  have e : ∀ k, k < n → pick1 p (topOf n) (endUp p.L (eF p) n) k = (eF p k + p.L k == endUp p.L (eF p) n) := fun k hk => by
    unfold pick1; rw [top_bit hn hk, Bool.true_and]
  have h1 := least_le (pick1 p (topOf n) (endUp p.L (eF p) n)) n
  have h2 := least_le (fun k => eF p k + p.L k == endUp p.L (eF p) n) n
  show _ = leastLt (fun k => eF p k + p.L k == endUp p.L (eF p) n) n
  rcases Nat.lt_trichotomy (leastLt (pick1 p (topOf n) (endUp p.L (eF p) n)) n) (leastLt (fun k => eF p k + p.L k == endUp p.L (eF p) n) n) with h | h | h
  · have a := least_at (P := pick1 p (topOf n) (endUp p.L (eF p) n)) (n := n) (by omega)
    rw [e _ (by omega), least_not (P := fun k => eF p k + p.L k == endUp p.L (eF p) n) h] at a
    cases a
  · exact h
  · have a := least_at (P := fun k => eF p k + p.L k == endUp p.L (eF p) n) (n := n) (by omega)
    rw [← e _ (by omega), least_not (P := pick1 p (topOf n) (endUp p.L (eF p) n)) h] at a
    cases a
set_option maxRecDepth 100000 in
set_option maxHeartbeats 8000000 in
theorem spec_ChainOf (p : Pj) (v1 v2 : Value) (w : World) (h1 : Ints w 0 v1 p.lo) (h2 : Ints w 0 v2 p.af) :
    Calls Try.prog 37 #[.agg #[v1, v2]] w (RetInts w (ints p.chain)) := by
  have H1 := Lib.hid h1; have H2 := Lib.hid h2
  obtain ⟨a1, c1, rfl, hn1, hc1, -⟩ := h1.open
  obtain ⟨a2, c2, rfl, hn2, hc2, -⟩ := h2.open
  clear h1 h2
  obtain ⟨n, hn⟩ : ∃ n, Hid (n = p.lo.length) := ⟨_, rfl⟩
  rw [← hn.out] at hn1 ⊢
  go_enter Try.func37, Try.ntmps37
  go_wp2_with fail
  obtain ⟨W, hW, A0, T0, hs, E⟩ := two_boxes w #[.slice a1 n c1, .slice a2 p.af.length c2] #[] 27 3
  rw [← hW.out]
  have R := Lib.hid (Ints.ofBox T0 (Nat.le_refl _))
  clear T0
  refine (spec_ProjectOk p (.slice a1 n c1) (.slice a2 p.af.length c2) _ (by have := H1.out.ext E; rw [hn.out]; exact this) (H2.out.ext E)).mono ?_
  rintro e w1 ⟨rfl, hb1⟩
  have A0 := A0.ext hb1
  have E := ext_trans E hb1
  have R := Lib.hid (R.out.ext hb1)
  have q1 := hb1.size
  clear hb1
  obtain ⟨rc0, rz0⟩ := (A0).rules; have rl0 := (A0).lt
  cases hok : p.ok
  · have Hok := Lib.hid hok
    clear hok
    go_wp2_with fail
    go_ret
    exact ⟨_, rfl, by rw [show p.chain = [] from if_neg (by simp [Hok.out])]; exact R.out.base (by omega), E⟩
  have Hok := Lib.hid hok
  clear hok
  go_wp2_with fail
  refine (spec_l9Early p (.slice a1 n c1) (.slice a2 p.af.length c2) _ (by have := H1.out.ext E; rw [hn.out]; exact this) (H2.out.ext E) Hok.out).mono ?_
  rintro e w2 ⟨v3, rfl, h3, hb2⟩
  obtain ⟨a3, c3, rfl, hn3, hc3, -⟩ := h3.open
  have H3 := Lib.hid h3
  rw [early_len, ← hn.out] at hn3 H3 ⊢
  have A0 := A0.ext hb2
  have R := Lib.hid (R.out.ext hb2)
  have E := ext_trans E hb2
  have q2 := hb2.size
  clear h3 hb2 rc0 rz0 rl0
  obtain ⟨rc0, rz0⟩ := (A0).rules; have rl0 := (A0).lt
  go_wp2_with fail
  refine (spec_l9Length p (.slice a1 n c1) (.slice a2 p.af.length c2) _ (by have := H1.out.ext E; rw [hn.out]; exact this) (H2.out.ext E) Hok.out).mono ?_
  rintro e w3 ⟨rfl, hb3⟩
  have A0 := A0.ext hb3
  have R := Lib.hid (R.out.ext hb3)
  have H3 := Lib.hid (H3.out.ext hb3)
  have E := ext_trans E hb3
  have q3 := hb3.size
  clear hb3 rc0 rz0 rl0
  have hlen := len_in Hok.out
  have eE : IsEarly p.L p.A p.lo.length (eF p) := early_is p
  have HLs := Lib.hid ((ok_upto Hok.out).2.2.1)
  have HAs := Lib.hid ((ok_upto Hok.out).2.2.2)
  have haf : Hid (p.af.length = n) := by rw [hn.out]; exact Lib.hid (ok_upto Hok.out).2.1
  have hn6 : n ≤ 6 := by rw [hn.out]; exact (ok_upto Hok.out).1
  have EE := Lib.hid eE
  have Hin := Lib.hid (early_in Hok.out)
  have hle : Hid (p.len = endUp p.L (eF p) n) := by rw [hn.out]; exact Lib.hid rfl
  obtain ⟨ln, hln⟩ : ∃ x, Hid (x = p.len) := ⟨_, rfl⟩
  rw [← hln.out] at hlen ⊢
  have htop := Lib.hid (top_64 hn6)
  clear eE
  obtain ⟨full, Hfull⟩ : ∃ l : List Nat, Hid (l = p.chain) := ⟨_, rfl⟩
  have hstart : Hid (0 < ln → ∃ t, t < n ∧ leastLt (pick1 p (topOf n) ln) n = t ∧ full = (backOf p.L p.A (eF p) t).reverse ++ []) := fun h => by
    have hn0 : 0 < n := by
      rcases Nat.eq_zero_or_pos n with h0 | h0
      · exfalso
        rw [hln.out, hle.out, h0] at h
        exact absurd h (by show ¬ (0 : Int) < 0; decide)
      · exact h0
    have hl := last_at EE.out (by rw [← hn.out]; exact hn0) (fun j hj => (HLs.out j hj).1)
    rw [← hn.out] at hl
    refine ⟨_, hl.1, ?_, ?_⟩
    · rw [hln.out, hle.out]; exact first_last hn6
    · rw [Hfull.out, Pj.chain, if_pos ⟨Hok.out, by rw [← hn.out]; exact hn0⟩, ← hn.out, List.append_nil]
  have hstop : Hid (ln ≤ 0 → full = []) := fun h => by
    rw [Hfull.out, Pj.chain, if_neg]
    rintro ⟨-, h0⟩
    have hl := last_at EE.out h0 (fun j hj => (HLs.out j hj).1)
    have := HLs.out _ hl.1
    have := EE.out.pos _ hl.1
    rw [hln.out, hle.out, hn.out] at h
    omega
  obtain ⟨rc0, rz0⟩ := (A0).rules; have rl0 := (A0).lt
  have hw1 := top_wrap n (by omega)
  go_wp2_with fail
  try rw [hw1]
  clear hw1 rc0 rz0 rl0
  go_loopg [3, 5, 6, 7] ln.toNat (fun m vo nd nx kk wr => ∃ (x y : Int) (out : List Nat), nd = .int .i64 x ∧ nx = .int .i64 y ∧ m = x.toNat ∧ 0 ≤ x ∧ x ≤ 140 ∧ 0 ≤ y ∧ y ≤ 64 ∧ (out.length : Int) + x ≤ 140 ∧
    Hid (0 < x → ∃ t, t < n ∧ leastLt (pick1 p y x) n = t ∧ full = (backOf p.L p.A (eF p) t).reverse ++ out) ∧ Hid (x ≤ 0 → full = out) ∧ Hid (Ints wr w.heap.size vo (ints out)) ∧ Below w3.heap.size w3 wr)
  case atStart => exact ⟨ln, topOf n, [], rfl, rfl, rfl, hlen.1, hlen.2, htop.out.1, htop.out.2, by simp; omega, hstart, hstop, Lib.hid (R.out.base (by omega)), ext_refl _⟩
  case round =>
    clear R hstart hstop
    obtain ⟨x, y, out, rfl, rfl, hgk, hx0, hx1, hy0, hy1, hout, Hgo, Hno, R, hb⟩ := hrel
    have Hk := Lib.hid hgk
    clear hgk
    obtain ⟨ao, co, hvo, -⟩ := R.out.open
    rw [ints_length] at hvo
    subst hvo
    by_cases hx : 0 < x
    · obtain ⟨t, htn, hlt, hfull⟩ := Hgo.out hx
      have Hfl := Lib.hid hfull
      have hsee : Hid (bit y t = true ∧ eF p t + p.L t = x) := by
        have := least_at (P := pick1 p y x) (n := n) (by omega)
        rw [hlt] at this
        simp only [pick1, Bool.and_eq_true, beq_iff_eq] at this
        exact this
      have hbelow : Hid (∀ b, b < t → pick1 p y x b = false) := fun b hb => least_not (n := n) (by rw [hlt]; exact hb)
      clear hlt hfull
      go_wp2_with fail
      go_loopg [3, 5, 6, 7] t (fun m vo nd nx bb wx => ∃ b : Nat, b ≤ t ∧ m = t - b ∧ vo = .slice ao out.length co ∧ nd = .int .i64 x ∧ nx = .int .i64 y ∧ bb = .int .i64 b ∧ Below wr.heap.size wr wx)
      case atStart => exact ⟨0, by omega, by omega, rfl, rfl, rfl, rfl, ext_refl _⟩
      case round =>
        rename World => wx
        obtain ⟨b, hbp, hgk, rfl, rfl, rfl, rfl, hbx⟩ := hrel
        have Hb := Lib.hid hgk
        clear hgk
        have hb2 := ext_trans hb hbx
        have A1 := A0.ext hb2
        obtain ⟨rc0, rz0⟩ := (A1).rules; have rl0 := (A1).lt
        have hbn : b < n := by omega
        have hne := hbelow.out b
        have hd := div_pow_le y b hy0 (by omega)
        have hbe : b < p.early.length := by rw [early_len, ← hn.out]; exact hbn
        have hbl : b < p.lo.length := by rw [← hn.out]; exact hbn
        have hba : b < p.af.length := by rw [haf.out]; exact hbn
        obtain ⟨g1, ha1, _, hg1, _, cy⟩ := ((H1.out.ext E).ext hb2).at_ hbl
        obtain ⟨g2, ha2, _, hg2, _, ca⟩ := ((H2.out.ext E).ext hb2).at_ hba
        obtain ⟨g3, ha3, _, hg3, _, cx⟩ := (H3.out.ext hb2).at_ hbe
        subst ha1; subst ha2; subst ha3
        obtain ⟨u, Hu⟩ : ∃ u, Hid (u = eF p b) := ⟨_, rfl⟩
        obtain ⟨l, Hl⟩ : ∃ l, Hid (l = p.L b) := ⟨_, rfl⟩
        obtain ⟨z, Hz⟩ : ∃ z, Hid (z = p.A b) := ⟨_, rfl⟩
        have hu := Hin.out b hbe
        have hl := HLs.out b hbl
        have hz := HAs.out b hbl
        rw [show p.early.getD b 0 = u from Hu.out.symm] at cx hu
        rw [show p.lo.getD b 0 = l from Hl.out.symm] at cy
        rw [show p.af.getD b 0 = z from Hz.out.symm] at ca
        rw [← Hl.out] at hl
        have hz1 : 0 ≤ z ∧ z ≤ 64 := by have := two_pow_in b (by omega); rw [Hz.out]; omega
        have hpk : Hid (pick1 p y x b = (bit y b && (u + l == x))) := by unfold pick1; rw [Hu.out, Hl.out]; exact Lib.hid rfl
        have hw : IntKind.i64.wrap (u + l) = u + l := IntWalk.i64_in _ (by omega)
        clear hz hbe hbl hba
        have hm2 := Int.emod_two_eq (y / 2 ^ b)
        cases hbit : bit y b
        · have he : (y / 2 ^ b % 2 == 1) = false := hbit
          have hbt : b < t := by
            rcases Nat.lt_or_ge b t with h | h
            · exact h
            · exfalso
              obtain rfl : b = t := by omega
              have := hsee.out.1
              rw [hbit] at this; cases this
          clear hbit hm2 hne
          go_wp2_with fail
          go_quiet (fail)
          go_wp2_with fail
          go_roundg (t - (b+1))
          case rel => exact ⟨b+1, by omega, rfl, rfl, rfl, rfl, by go_num, ext_trans hbx (ext_drewN _ _)⟩
          case measure => have := Hb.out; omega
        · have he : (y / 2 ^ b % 2 == 1) = true := hbit
          have Hbit := Lib.hid hbit
          have Hne := Lib.hid hne
          clear hbit hm2 hne
          by_cases hbt : b < t
          · have hq : (u + l == x) = false := by
              have := Hne.out hbt
              rw [hpk.out, Hbit.out, Bool.true_and] at this; exact this
            go_wp2_with fail
            go_quiet (fail)
            go_wp2_with fail
            go_roundg (t - (b+1))
            case rel => exact ⟨b+1, by omega, rfl, rfl, rfl, rfl, by go_num, ext_trans hbx (ext_drewN _ _)⟩
            case measure => have := Hb.out; omega
          · obtain rfl : b = t := by omega
            have hul : u + l = x := by rw [Hu.out, Hl.out]; exact hsee.out.2
            have hq : (u + l == x) = true := by rw [hul]; exact beq_self_eq_true _
            have Hul := Lib.hid hul
            clear hul
            go_wp2_with fail
            go_quiet (fail)
            rename_i nq
            obtain ⟨d, hd⟩ : ∃ d, Hid (d = wx.drewN nq) := ⟨_, rfl⟩
            have Ed : Below wx.heap.size wx d := by rw [hd.out]; exact ext_drewN _ _
            rw [← hd.out]
            have hb2 := ext_trans hb2 Ed
            have hbx := ext_trans hbx Ed
            have R2 := Lib.hid (R.out.ext hbx)
            clear rc0 rz0 rl0 A1 cy ca cx Ed
            have A1 := A0.ext hb2
            have qd := hb2.size
            have qe := E.size
            go_upto_region 13 with (at_builtin; refine wpl_appI _ rfl (.tmp 51) (.tmp 52) rfl w.heap.size 0 (.slice (some ⟨d.heap.size, 0, none⟩) 1 1) [(b : Int)] rfl ((Ints.lit d b).base (by omega)) (.slice ao out.length co) (ints out) rfl ((R2.out.alloc _).base (Nat.zero_le _)) (by rw [ints_length]; simp; omega) (by simp; omega) ?_; intro v9 w9 hv9 hg9)
            have hb9 : Below d.heap.size d w9 := ext_grown (ext_alloc (ext_refl _) _) hg9 (fun q hq => by simp [Value.ownBlock] at hq; omega)
            have hb2 := ext_trans hb2 hb9
            have hbx := ext_trans hbx hb9
            have A1 := A1.ext hb9
            have R3 := Lib.hid hv9
            clear hv9 hg9 hb9
            obtain ⟨rc0, rz0⟩ := (A1).rules; have rl0 := (A1).lt
            have hba : b < p.af.length := by rw [haf.out]; exact hbn
            obtain ⟨_, hae, _, hg2, _, ca⟩ := ((H2.out.ext E).ext hb2).at_ (j := b) hba
            cases hae
            obtain ⟨_, hae, _, hg3, _, cx⟩ := (H3.out.ext hb2).at_ (j := b) (by rw [early_len, ← hn.out]; exact hbn)
            cases hae
            rw [show p.early.getD b 0 = u from Hu.out.symm] at cx
            rw [show p.af.getD b 0 = z from Hz.out.symm] at ca
            go_wp2_with fail
            go_roundg u.toNat
            case rel =>
              refine ⟨u, z, b :: out, rfl, rfl, rfl, hu.1, by omega, hz1.1, hz1.2, by have := Hul.out; simp; omega, ?_, ?_, ?_, ext_trans hb hbx⟩
              · refine Lib.hid fun h0 => ?_
                have hprev := prev_at EE.out (i := b) (by rw [← hn.out]; exact hbn) (show 0 < eF p b by rw [← Hu.out]; exact h0)
                refine ⟨prevOf p.L p.A (eF p) b, by omega, ?_, ?_⟩
                · rw [Hz.out, Hu.out]
                  exact least_ext (m := b) hprev.1 (by omega)
                · rw [Hfl.out, back_more EE.out (by rw [← hn.out]; exact hbn) (show 0 < eF p b by rw [← Hu.out]; exact h0)]
                  simp
              · refine Lib.hid fun h0 => ?_
                rw [Hfl.out, back_end (by rw [← Hu.out]; exact h0)]
                rfl
              · exact R3
            case measure => have := Hk.out; have := Hul.out; omega
    · have hfo := Lib.hid (Hno.out (by omega))
      go_wp2_with fail
      go_ret
      refine ⟨_, rfl, ?_, E.trans (hb.mono (by have := E.size; omega))⟩
      rw [← Hfull.out, hfo.out]
      exact R.out
theorem chain_small (p : Pj) : (ints p.chain).length ≤ 6 := by
  rw [ints_length, Pj.chain]
  split
  · rename_i h
    obtain ⟨h1, h2, h3, h4⟩ := ok_upto h.1
    have hl := last_at (early_is p) h.2 (fun j hj => (h3 j hj).1)
    have := back_len (early_is p) _ hl.1
    rw [List.length_reverse]
    have e : backOf p.L p.A (eF p) (lastOf p.L (eF p) p.lo.length) = backOf p.L p.A (fun j => p.early.getD j 0) (lastOf p.L (fun j => p.early.getD j 0) p.lo.length) := rfl
    rw [e]
    omega
  · simp
end Go.Proofs.Ytllicgomlohffaa
