/- The walk of FnLengthOf: it returns true, whatever code came in. Condition: the bytes of the code can be read. -/
import Derived.Test.YtllicgomlohffaaDrawnP
import Derived.Test.YtllicgomlohffaaEarlyOf
import Derived.Test.YtllicgomlohffaaLawInts
import Derived.Test.YtllicgomlohffaaSame
import Derived.Test.YtllicgomlohffaaLateM
namespace Go.Proofs.Ytllicgomlohffaa
open Go.RowKit
set_option linter.unusedVariables false
set_option linter.unusedSimpArgs false
/-- the greatest length of the first k tasks -/
def mostUp (L : Nat → Int) : Nat → Int
  | 0 => 0
  | k+1 => max (mostUp L k) (L k)
theorem most_le {L : Nat → Int} {b : Int} (hb : 0 ≤ b) : ∀ n, (∀ j, j < n → L j ≤ b) → mostUp L n ≤ b
  | 0, _ => hb
  | n+1, h => by have := most_le hb n fun j hj => h j (by omega); have := h n (by omega); unfold mostUp; omega
theorem most_pos (L : Nat → Int) : ∀ n, 0 ≤ mostUp L n
  | 0 => Int.le_refl _
  | n+1 => by have := most_pos L n; unfold mostUp; omega
theorem sum_in {L : Nat → Int} : ∀ n, (∀ j, j < n → 1 ≤ L j ∧ L j ≤ 20) → 0 ≤ sumUp L n ∧ sumUp L n ≤ 20 * n
  | 0, _ => by simp [sumUp]
  | n+1, h => by have := sum_in n fun j hj => h j (by omega); have := h n (by omega); show 0 ≤ sumUp L n + L n ∧ sumUp L n + L n ≤ _; omega
/-- the project with its last task longer by 1 -/
def Pj.more (p : Pj) : Pj := ⟨p.lo.set (p.lo.length - 1) (p.lo.getD (p.lo.length - 1) 0 + 1), p.af⟩
theorem more_len {p : Pj} (h : p.ok = true) (hn : 0 < p.lo.length) : p.more.lenOf < 0 ∨ p.more.lenOf = p.len ∨ p.more.lenOf = p.len + 1 := by
  unfold Pj.lenOf
  split
  · rename_i hq
    have hl : p.more.lo.length = p.lo.length := by simp [Pj.more]
    have e1 := early_is p
    have e2 := early_is p.more
    rw [hl] at e2
    have hL : ∀ j, j ≠ p.lo.length - 1 → p.more.L j = p.L j := fun j hj => by
      unfold Pj.L Pj.more
      rw [List.getD_eq_getElem?_getD]
      dsimp only
      rw [List.getElem?_set_ne (Ne.symm hj), List.getD_eq_getElem?_getD]
    have hk : p.more.L (p.lo.length - 1) = p.L (p.lo.length - 1) + 1 := by
      unfold Pj.L Pj.more
      dsimp only
      rw [List.getD_eq_getElem?_getD, List.getElem?_set_self (by omega)]
      rfl
    have up := one_longer (L := p.L) (L' := p.more.L) (A := p.A) (k := p.lo.length - 1) e1 e2 (by omega) hL (by omega)
    have mono := early_mono (L := p.L) (L' := p.more.L) (A := p.A) e1 e2 fun j hj => by
      by_cases hjk : j = p.lo.length - 1
      · subst hjk; omega
      · rw [hL j hjk]; exact Int.le_refl _
    have lo : endUp p.L (fun j => p.early.getD j 0) p.lo.length ≤ endUp p.more.L (fun j => p.more.early.getD j 0) p.lo.length := endUp_mono fun i hi => by
      have := mono i hi
      by_cases hjk : i = p.lo.length - 1
      · subst hjk; omega
      · have := hL i hjk; omega
    have hm : p.more.len = endUp p.more.L (fun j => p.more.early.getD j 0) p.lo.length := by unfold Pj.len; rw [hl]
    have hp : p.len = endUp p.L (fun j => p.early.getD j 0) p.lo.length := rfl
    omega
  · left; decide
theorem len_bounds {p : Pj} (h : p.ok = true) : p.len ≤ sumUp p.L p.lo.length ∧ mostUp p.L p.lo.length ≤ p.len := by
  obtain ⟨h1, h2, h3, h4⟩ := ok_upto h
  refine ⟨end_sum (early_is p) fun j hj => by have := h3 j hj; omega, most_le (len_in h).1 _ fun j hj => ?_⟩
  have a := endUp_up p.L (fun j => p.early.getD j 0) p.lo.length j hj
  have b := (early_is p).pos j hj
  have c : p.len = endUp p.L (fun j => p.early.getD j 0) p.lo.length := rfl
  omega
set_option maxRecDepth 100000 in
set_option maxHeartbeats 8000000 in
theorem walk_LengthOf (a : Option Addr) (n cap : Nat) (w : World) (h : Byt w w.heap.size a n cap) :
    Calls Try.prog 5 #[.slice a n cap] w fun e w' => e = .returned (.bool true) ∧ Below w.heap.size w w' := by
  have H := Lib.hid h
  obtain ⟨hncap, hcap, -⟩ := id h
  clear h
  by_cases hbig : 1048576 < n
  · go_enter Try.func5, Try.ntmps5
    go_wp2_with fail
    go_ret
    exact ⟨rfl, ext_refl _⟩
  go_enter Try.func5, Try.ntmps5
  go_wp2_with fail
  refine (spec_DrawLengthOf a n cap w H.out).mono ?_
  rintro e w1 ⟨v1, v2, l, t, rfl, hV, hU, hl8, ht8, hb1⟩
  have E := hb1
  clear hb1
  obtain ⟨a1, c1, rfl, -⟩ := hV.open
  have V := Lib.hid hV
  clear hV
  obtain ⟨a2, c2, rfl, -⟩ := hU.open
  have U := Lib.hid hU
  clear hU
  go_wp2_with fail
  obtain ⟨w2, hw2, A0, hs2, hb2⟩ := one_box w1 #[.slice a1 l.length c1, .slice a2 t.length c2] 27
  rw [← hw2.out]
  have V := Lib.hid (V.out.ext hb2)
  have U := Lib.hid (U.out.ext hb2)
  have E := ext_trans E hb2
  clear hb2
  obtain ⟨p, hp⟩ : ∃ p : Pj, Hid (p = ⟨l, t⟩) := ⟨_, rfl⟩
  have hpl : Hid (p.lo = l) := by rw [hp.out]; exact Lib.hid rfl
  have hpt : Hid (p.af = t) := by rw [hp.out]; exact Lib.hid rfl
  have V : Hid (Ints w2 w.heap.size (.slice a1 l.length c1) p.lo) := by rw [hpl.out]; exact V
  have U : Hid (Ints w2 w.heap.size (.slice a2 t.length c2) p.af) := by rw [hpt.out]; exact U
  obtain ⟨rcA0, rzA0⟩ := (A0).rules; have rlA0 := (A0).lt
  go_wp2_with fail
  refine (impl_LengthOf p _ _ _ (V.out.base (Nat.zero_le _)) (U.out.base (Nat.zero_le _))).mono ?_
  rintro e w3 ⟨rfl, hb3⟩
  clear rcA0 rzA0 rlA0
  have A0 := A0.ext hb3
  have V := Lib.hid (V.out.ext hb3)
  have U := Lib.hid (U.out.ext hb3)
  have E := ext_trans E hb3
  clear hb3
  obtain ⟨N, hN⟩ : ∃ N, Hid (N = p.lenOf) := ⟨_, rfl⟩
  rw [← hN.out]
  obtain ⟨rcA0, rzA0⟩ := (A0).rules; have rlA0 := (A0).lt
  go_wp2_with fail
  refine (spec_LengthOf p _ _ _ (V.out.base (Nat.zero_le _)) (U.out.base (Nat.zero_le _))).mono ?_
  rintro e w4 ⟨rfl, hb4⟩
  clear rcA0 rzA0 rlA0
  have A0 := A0.ext hb4
  have V := Lib.hid (V.out.ext hb4)
  have U := Lib.hid (U.out.ext hb4)
  have E := ext_trans E hb4
  clear hb4
  rw [← hN.out]
  obtain ⟨rcA0, rzA0⟩ := (A0).rules; have rlA0 := (A0).lt
  by_cases hok : p.ok = true
  · have Hok := Lib.hid hok
    obtain ⟨hl6, haf, hLs, hAs⟩ := ok_upto hok
    have hli := len_in hok
    have hlb := len_bounds hok
    have HLs := Lib.hid hLs
    have hNp : Hid (N = p.len) := by rw [hN.out]; exact Lib.hid (if_pos hok)
    obtain ⟨k0, hk0⟩ : ∃ k, Hid (k = p.lo.length) := ⟨_, rfl⟩
    have hkl : Hid (l.length = k0) := by rw [hk0.out, hpl.out]; exact Lib.hid rfl
    have Hsum := Lib.hid (fun j (hj : j ≤ p.lo.length) => sum_in (L := p.L) j fun i hi => hLs i (by omega))
    have Hmost : Hid (∀ j, j ≤ p.lo.length → 0 ≤ mostUp p.L j ∧ mostUp p.L j ≤ 20) := fun j hj => ⟨most_pos _ _, most_le (by decide) j fun i hi => (hLs i (by omega)).2⟩
    rw [← hNp.out] at hli hlb
    rw [← hk0.out] at hl6 hlb
    rw [hkl.out] at V A0
    clear hLs hAs haf hok
    clear rcA0 rzA0 rlA0
    obtain ⟨rcA0, rzA0⟩ := (A0).rules; have rlA0 := (A0).lt
    go_wp2_with fail
    go_loopg [5, 6, 7] k0 (fun m ss mm kk wr => ∃ k : Nat, k ≤ k0 ∧ m = k0 - k ∧ kk = .int .i64 k ∧ ss = .int .i64 (sumUp p.L k) ∧ mm = .int .i64 (mostUp p.L k) ∧ wr = w4)
    case atStart => exact ⟨0, by omega, by omega, rfl, rfl, rfl, rfl⟩
    case round =>
      obtain ⟨k, hk, hgk, rfl, rfl, rfl, rfl⟩ := hrel
      have Hk := Lib.hid hgk
      clear hgk
      have hsi := Hsum.out k (by rw [← hk0.out]; exact hk)
      have hmi := Hmost.out k (by rw [← hk0.out]; exact hk)
      obtain ⟨s, Hs⟩ : ∃ s, Hid (s = sumUp p.L k) := ⟨_, rfl⟩
      obtain ⟨x, Hx⟩ : ∃ x, Hid (x = mostUp p.L k) := ⟨_, rfl⟩
      rw [← Hs.out] at hsi ⊢
      rw [← Hx.out] at hmi ⊢
      by_cases hlt : k < k0
      · have hkn : k < p.lo.length := by rw [← hk0.out]; exact hlt
        obtain ⟨g1, ha1, _, hg1, _, cy⟩ := V.out.at_ hkn
        subst ha1
        have hy := HLs.out k hkn
        obtain ⟨y, Hy⟩ : ∃ y, Hid (y = p.L k) := ⟨_, rfl⟩
        rw [show p.lo.getD k 0 = y from Hy.out.symm] at cy
        rw [← Hy.out] at hy
        clear hkn
        by_cases hmx : y ≤ x
        · go_wp2_with fail
          go_roundg (k0 - (k+1))
          case rel => exact ⟨k+1, by omega, rfl, by go_num, by rw [Hs.out, Hy.out]; rfl, by rw [show mostUp p.L (k+1) = max (mostUp p.L k) (p.L k) from rfl, ← Hx.out, ← Hy.out, Int.max_eq_left hmx], rfl⟩
          case measure => have := Hk.out; omega
        · go_wp2_with fail
          go_roundg (k0 - (k+1))
          case rel => exact ⟨k+1, by omega, rfl, by go_num, by rw [Hs.out, Hy.out]; rfl, by rw [show mostUp p.L (k+1) = max (mostUp p.L k) (p.L k) from rfl, ← Hx.out, ← Hy.out, Int.max_eq_right (by omega)], rfl⟩
          case measure => have := Hk.out; omega
      · have hkk : k0 = k := by omega
        subst hkk
        rw [← Hs.out, ← Hx.out] at hlb
        clear hsi hmi
        have HAr := Lib.hid A0.lt
        have BU9 : Hid (∀ q, (Value.slice a2 t.length c2).ownBlock = some q → q < wr.heap.size) := fun q hq => (U.out.lt q hq).2
        have hEr := Lib.hid E.size
        have hk6 : p.lo.length ≤ 6 := by rw [← hk0.out]; exact hl6
        go_upto_region 17 with (at_builtin; refine wpl_appI _ rfl (.tmp 54) (.tmp 56) rfl wr.heap.size 0 (.slice (some ⟨wr.heap.size, 0, none⟩) 0 0) [] rfl (Ints.ofBox (Box.new wr 3 #[]) (Nat.le_refl _)) (.slice a1 k0 c1) p.lo rfl ((V.out.alloc _).base (Nat.zero_le _)) (by simp; omega) (by simp) ?_; intro v' w9 hv' hg'; simp only [List.nil_append] at hv'; obtain ⟨aR, cR, hvR, -⟩ := hv'.open; rw [← hk0.out] at hvR; subst hvR)
        have hb9 : Below wr.heap.size wr w9 := ext_grown (ext_alloc (ext_refl wr) _) hg' (fun q hq => by simp [Value.ownBlock] at hq; omega)
        have R := Lib.hid hv'
        clear hv' hg'
        clear rcA0 rzA0 rlA0
        have A0 := A0.ext hb9
        have V := Lib.hid (V.out.ext hb9)
        have U := Lib.hid (U.out.ext hb9)
        have E := ext_trans E hb9
        have qw9 := hb9.size
        skip
        have hA9 := A0.lt
        have hAr : w1.heap.size < wr.heap.size := by have := HAr.out; omega
        by_cases hpos : 0 < k0
        · obtain ⟨j, rfl⟩ : ∃ j, k0 = j + 1 := ⟨k0 - 1, by omega⟩
          have hjl : j < p.lo.length := by rw [← hk0.out]; omega
          obtain ⟨gR, haR, hgb, hgR, hfz, cy⟩ := R.out.at_ hjl
          subst haR
          obtain ⟨y, Hy⟩ : ∃ y, Hid (y = p.lo.getD j 0) := ⟨_, rfl⟩
          rw [← Hy.out] at cy
          have hy : 1 ≤ y ∧ y ≤ 20 := by rw [Hy.out]; exact HLs.out j hjl
          have hmo : Hid (p.more.lo = p.lo.set j (y + 1)) := by unfold Pj.more; rw [Hy.out, show p.lo.length - 1 = j by rw [← hk0.out]; omega]; exact Lib.hid rfl
          have hm3 := more_len Hok.out (by omega)
          obtain ⟨rcA0, rzA0⟩ := (A0).rules; have rlA0 := (A0).lt
          go_wp2_with fail
          have R2 := Lib.hid (R.out.set j (y + 1))
          have U2 := Lib.hid (U.out.far (grown_one w9 gR j (.int .i64 (y + 1))) (fun q hq e => by have := BU9.out q hq; injection e with e; omega))
          have E2 := ext_set E (p := ⟨gR, j, none⟩) (by have := E.size; have := hEr.out; dsimp only; omega) (.int .i64 (y + 1))
          refine (impl_LengthOf p.more _ _ _ (by rw [hmo.out]; exact R2.out.base (Nat.zero_le _)) (U2.out.base (Nat.zero_le _))).mono ?_
          rintro e w10 ⟨rfl, hb10⟩
          have E3 := ext_trans E2 hb10
          rw [← hNp.out] at hm3
          obtain ⟨M, hM⟩ : ∃ M, Hid (M = p.more.lenOf) := ⟨_, rfl⟩
          rw [← hM.out] at hm3 ⊢
          clear rcA0 rzA0 rlA0
          rcases hm3 with hm3 | hm3 | hm3
          · skip
            go_wp2_with fail
            refine (laws_alive _).mono ?_
            rintro e w11 ⟨rfl, hb11⟩
            go_wp2_with fail
            go_ret
            exact ⟨rfl, ext_trans E3 hb11⟩
          · subst hm3
            go_wp2_with fail
            refine (laws_alive _).mono ?_
            rintro e w11 ⟨rfl, hb11⟩
            go_wp2_with fail
            go_ret
            exact ⟨rfl, ext_trans E3 hb11⟩
          · subst hm3
            go_wp2_with fail
            refine (laws_alive _).mono ?_
            rintro e w11 ⟨rfl, hb11⟩
            go_wp2_with fail
            go_ret
            exact ⟨rfl, ext_trans E3 hb11⟩
        · obtain rfl : k0 = 0 := by omega
          obtain ⟨rcA0, rzA0⟩ := (A0).rules; have rlA0 := (A0).lt
          go_wp2_with fail
          refine (impl_LengthOf p _ _ _ (R.out.base (Nat.zero_le _)) (U.out.base (Nat.zero_le _))).mono ?_
          rintro e w10 ⟨rfl, hb10⟩
          have E3 := ext_trans E hb10
          rw [← hN.out]
          clear rcA0 rzA0 rlA0
          go_wp2_with fail
          refine (laws_alive _).mono ?_
          rintro e w11 ⟨rfl, hb11⟩
          go_wp2_with fail
          go_ret
          exact ⟨rfl, ext_trans E3 hb11⟩
  · simp only [Bool.not_eq_true] at hok
    have Hok := Lib.hid hok
    have hNp : N = -1 := by rw [hN.out]; exact if_neg (by simp [hok])
    subst hNp
    clear hok
    go_wp2_with fail
    refine (impl_ProjectOk p _ _ _ (V.out.base (Nat.zero_le _)) (U.out.base (Nat.zero_le _))).mono ?_
    rintro e w5 ⟨rfl, hb5⟩
    clear rcA0 rzA0 rlA0
    have A0 := A0.ext hb5
    have V := Lib.hid (V.out.ext hb5)
    have U := Lib.hid (U.out.ext hb5)
    have E := ext_trans E hb5
    clear hb5
    rw [Hok.out]
    obtain ⟨rcA0, rzA0⟩ := (A0).rules; have rlA0 := (A0).lt
    go_wp2_with fail
    refine (laws_alive _).mono ?_
    rintro e w6 ⟨rfl, hb6⟩
    clear rcA0 rzA0 rlA0
    have A0 := A0.ext hb6
    have V := Lib.hid (V.out.ext hb6)
    have U := Lib.hid (U.out.ext hb6)
    have E := ext_trans E hb6
    clear hb6
    go_wp2_with fail
    go_ret
    exact ⟨rfl, E⟩
end Go.Proofs.Ytllicgomlohffaa
