/- The walk of FnChainOf: it returns true, whatever code came in. Condition: the bytes of the code can be read. -/
import Derived.Test.YtllicgomlohffaaDrawnP
import Derived.Test.YtllicgomlohffaaSpares
import Derived.Test.YtllicgomlohffaaChainS
import Derived.Test.YtllicgomlohffaaLawInts
import Derived.Test.YtllicgomlohffaaSame
import Derived.Test.YtllicgomlohffaaHasInt
namespace Go.Proofs.Ytllicgomlohffaa
open Go.RowKit
set_option linter.unusedVariables false
set_option linter.unusedSimpArgs false
def spC (p : Pj) (k : Nat) : Int := tOf p k - p.early.getD k 0
theorem sum_cons (f : Nat → Int) : ∀ n, sumUp f (n+1) = f 0 + sumUp (fun j => f (j+1)) n
  | 0 => by simp [sumUp]
  | n+1 => by show sumUp f (n+1) + f (n+1) = _; rw [sum_cons f n]; show _ = f 0 + (sumUp (fun j => f (j+1)) n + f (n+1)); omega
theorem sum_list (F : Nat → Int) : ∀ l : List Nat, sumUp (fun j => F (l.getD j 0)) l.length = (l.map F).foldr (· + ·) 0
  | [] => rfl
  | x :: l => by
    rw [List.length_cons, sum_cons]
    show F x + sumUp (fun j => F (l.getD j 0)) l.length = F x + (l.map F).foldr (· + ·) 0
    rw [sum_list F l]
theorem foldr_snoc (l : List Int) (x : Int) : (l ++ [x]).foldr (· + ·) 0 = l.foldr (· + ·) 0 + x := by
  induction l with
  | nil => simp
  | cons y l ih => rw [List.cons_append, List.foldr_cons, ih, List.foldr_cons]; omega
theorem foldr_rev : ∀ l : List Int, l.reverse.foldr (· + ·) 0 = l.foldr (· + ·) 0
  | [] => rfl
  | x :: l => by rw [List.reverse_cons, foldr_snoc, foldr_rev l, List.foldr_cons]; omega
theorem chain_facts {p : Pj} (hok : p.ok = true) (hn : 0 < p.lo.length) : 1 ≤ p.chain.length ∧ p.chain.length ≤ 6 ∧ (∀ j, j < p.chain.length → p.chain.getD j 0 < p.lo.length ∧ spC p (p.chain.getD j 0) = 0) ∧
    (∀ j, j + 1 < p.chain.length → p.chain.getD j 0 < p.chain.getD (j+1) 0 ∧ bit (p.A (p.chain.getD (j+1) 0)) (p.chain.getD j 0) = true) ∧ sumUp (fun j => p.L (p.chain.getD j 0)) p.chain.length = p.len := by
  obtain ⟨h1, h2, h3, h4⟩ := ok_upto hok
  have hl := last_at (early_is p) hn (fun j hj => (h3 j hj).1)
  have ht := last_late (early_is p) (late_is p) hn (fun j hj => (h3 j hj).1)
  have hb := back_len (early_is p) _ hl.1
  obtain ⟨g1, g2, g3⟩ := back_good (early_is p) (late_is p) _ hl.1 ht
  have hc : p.chain = (backOf p.L p.A (fun j => p.early.getD j 0) (lastOf p.L (fun j => p.early.getD j 0) p.lo.length)).reverse := if_pos ⟨hok, hn⟩
  generalize hB : backOf p.L p.A (fun j => p.early.getD j 0) (lastOf p.L (fun j => p.early.getD j 0) p.lo.length) = B at *
  have hlen : p.chain.length = B.length := by rw [hc, List.length_reverse]
  refine ⟨by omega, by omega, fun j hj => ?_, fun j hj => ?_, ?_⟩
  · rw [hc, getD_rev (by omega)]
    have := g1 (B.length - 1 - j) (by omega)
    exact ⟨this.1, by unfold spC; omega⟩
  · rw [hc, getD_rev (by omega), getD_rev (by omega)]
    have := g2 (B.length - 1 - (j+1)) (by omega)
    rw [show B.length - 1 - (j+1) + 1 = B.length - 1 - j by omega] at this
    exact this
  · rw [sum_list, hc, List.map_reverse, foldr_rev, g3]
    exact hl.2
set_option maxRecDepth 100000 in
set_option maxHeartbeats 8000000 in
theorem walk_ChainOf (a : Option Addr) (n cap : Nat) (w : World) (h : Byt w w.heap.size a n cap) :
    Calls Try.prog 12 #[.slice a n cap] w fun e w' => e = .returned (.bool true) ∧ Below w.heap.size w w' := by
  have H := Lib.hid h
  obtain ⟨hncap, hcap, -⟩ := id h
  clear h
  by_cases hbig : 1048576 < n
  · go_enter Try.func12, Try.ntmps12
    go_wp2_with fail
    go_ret
    exact ⟨rfl, ext_refl _⟩
  go_enter Try.func12, Try.ntmps12
  go_wp2_with fail
  refine (spec_DrawChainOf a n cap w H.out).mono ?_
  rintro e w1 ⟨v1, v2, l, t, rfl, hV, hU, hl8, ht8, hb1⟩
  have E := hb1
  clear hb1
  obtain ⟨a1, c1, rfl, -⟩ := hV.open
  have V := Lib.hid hV
  clear hV
  obtain ⟨a2, c2, rfl, -⟩ := hU.open
  have U := Lib.hid hU
  clear hU
  go_wp2_with fail
  obtain ⟨w2, hw2, A0, hs2, hb2⟩ := one_box w1 #[.slice a1 l.length c1, .slice a2 t.length c2] 27
  rw [← hw2.out]
  have V := Lib.hid (V.out.ext hb2)
  have U := Lib.hid (U.out.ext hb2)
  have E := ext_trans E hb2
  clear hb2
  obtain ⟨p, hp⟩ : ∃ p : Pj, Hid (p = ⟨l, t⟩) := ⟨_, rfl⟩
  have hpl : Hid (p.lo = l) := by rw [hp.out]; exact Lib.hid rfl
  have hpt : Hid (p.af = t) := by rw [hp.out]; exact Lib.hid rfl
  have V : Hid (Ints w2 w.heap.size (.slice a1 l.length c1) p.lo) := by rw [hpl.out]; exact V
  have U : Hid (Ints w2 w.heap.size (.slice a2 t.length c2) p.af) := by rw [hpt.out]; exact U
  obtain ⟨rcA0, rzA0⟩ := (A0).rules; have rlA0 := (A0).lt
  go_wp2_with fail
  obtain ⟨T0, hT0⟩ : ∃ T0 : List Int, Hid (T0 = ints p.chain) := ⟨_, rfl⟩
  refine (impl_ChainOf p _ _ _ (V.out.base (Nat.zero_le _)) (U.out.base (Nat.zero_le _))).mono ?_
  rintro e w3 ⟨vX, rfl, hX, hb3⟩
  clear rcA0 rzA0 rlA0
  have A0 := A0.ext hb3
  have V := Lib.hid (V.out.ext hb3)
  have U := Lib.hid (U.out.ext hb3)
  have E := ext_trans E hb3
  clear hb3
  obtain ⟨aX, cX, rfl, -⟩ := hX.open
  have X := Lib.hid hX
  clear hX
  rw [← hT0.out] at X ⊢
  obtain ⟨rcA0, rzA0⟩ := (A0).rules; have rlA0 := (A0).lt
  go_wp2_with fail
  refine (spec_ChainOf p _ _ _ (V.out.base (Nat.zero_le _)) (U.out.base (Nat.zero_le _))).mono ?_
  rintro e w4 ⟨vY, rfl, hY, hb4⟩
  clear rcA0 rzA0 rlA0
  have A0 := A0.ext hb4
  have V := Lib.hid (V.out.ext hb4)
  have U := Lib.hid (U.out.ext hb4)
  have X := Lib.hid (X.out.ext hb4)
  have E := ext_trans E hb4
  clear hb4
  obtain ⟨aY, cY, rfl, -⟩ := hY.open
  have Y := Lib.hid hY
  clear hY
  rw [← hT0.out] at Y ⊢
  obtain ⟨rcA0, rzA0⟩ := (A0).rules; have rlA0 := (A0).lt
  go_wp2_with fail
  refine (laws_sameInts _ _ T0 T0 _ (X.out.base (Nat.zero_le _)) (Y.out.base (Nat.zero_le _))).mono ?_
  rintro e w5 ⟨rfl, hb5⟩
  clear rcA0 rzA0 rlA0
  have A0 := A0.ext hb5
  have V := Lib.hid (V.out.ext hb5)
  have U := Lib.hid (U.out.ext hb5)
  have X := Lib.hid (X.out.ext hb5)
  have Y := Lib.hid (Y.out.ext hb5)
  have E := ext_trans E hb5
  clear hb5
  rw [decide_eq_true rfl]
  obtain ⟨rcA0, rzA0⟩ := (A0).rules; have rlA0 := (A0).lt
  have HT0 := Lib.hid hT0.out
  by_cases hE0 : T0.length = 0
  · have hz0 : ((T0.length : Int) == 0) = true := by simp [hE0]
    have HE := Lib.hid hE0
    by_cases hl0 : l.length = 0
    · have he0 : ((l.length : Int) == 0) = true := by simp [hl0]
      have Hl0 := Lib.hid hl0
      clear hl0 hE0
      go_wp2_with fail
      refine (laws_alive _).mono ?_
      rintro e w6 ⟨rfl, hb6⟩
      clear rcA0 rzA0 rlA0
      have A0 := A0.ext hb6
      have V := Lib.hid (V.out.ext hb6)
      have U := Lib.hid (U.out.ext hb6)
      have X := Lib.hid (X.out.ext hb6)
      have Y := Lib.hid (Y.out.ext hb6)
      have E := ext_trans E hb6
      clear hb6
      go_wp2_with fail
      go_ret
      exact ⟨rfl, E⟩
    · have he0 : ((l.length : Int) == 0) = false := beq_false_of_ne (by omega)
      have Hl0 := Lib.hid hl0
      clear hl0 hE0
      have Hok : Hid (p.ok = false) := by
        cases hok : p.ok
        · exact Lib.hid rfl
        · exfalso
          have h1 := HE.out
          have h2 := (chain_facts hok (by rw [hpl.out]; have := Hl0.out; omega)).1
          rw [HT0.out, ints_length] at h1
          omega
      go_wp2_with fail
      refine (impl_ProjectOk p _ _ _ (V.out.base (Nat.zero_le _)) (U.out.base (Nat.zero_le _))).mono ?_
      rintro e w6 ⟨rfl, hb6⟩
      clear rcA0 rzA0 rlA0
      have A0 := A0.ext hb6
      have V := Lib.hid (V.out.ext hb6)
      have U := Lib.hid (U.out.ext hb6)
      have X := Lib.hid (X.out.ext hb6)
      have Y := Lib.hid (Y.out.ext hb6)
      have E := ext_trans E hb6
      clear hb6
      rw [Hok.out]
      obtain ⟨rcA0, rzA0⟩ := (A0).rules; have rlA0 := (A0).lt
      go_wp2_with fail
      refine (laws_alive _).mono ?_
      rintro e w7 ⟨rfl, hb7⟩
      clear rcA0 rzA0 rlA0
      have A0 := A0.ext hb7
      have V := Lib.hid (V.out.ext hb7)
      have U := Lib.hid (U.out.ext hb7)
      have X := Lib.hid (X.out.ext hb7)
      have Y := Lib.hid (Y.out.ext hb7)
      have E := ext_trans E hb7
      clear hb7
      go_wp2_with fail
      go_ret
      exact ⟨rfl, E⟩
  · have hz0 : ((T0.length : Int) == 0) = false := beq_false_of_ne (by omega)
    have hcase : Hid (p.ok = true ∧ 0 < p.lo.length) := by
      by_cases h : p.ok = true ∧ 0 < p.lo.length
      · exact Lib.hid h
      · exfalso
        rw [HT0.out, ints_length, show p.chain = [] from if_neg h] at hE0
        exact hE0 rfl
    have Hok : Hid (p.ok = true) := hcase.out.1
    obtain ⟨N, hN⟩ : ∃ N, Hid (N = p.lo.length) := ⟨_, rfl⟩
    obtain ⟨M, hM⟩ : ∃ M, Hid (M = T0.length) := ⟨_, rfl⟩
    obtain ⟨C, hC⟩ : ∃ C, Hid (C = p.chain) := ⟨_, rfl⟩
    have hTC : Hid (T0 = ints C) := by rw [HT0.out, hC.out]; exact Lib.hid rfl
    have hCM : Hid (C.length = M) := by rw [hM.out, hTC.out, ints_length]; exact Lib.hid rfl
    have hN0 : 0 < N := by rw [hN.out]; exact hcase.out.2
    obtain ⟨f1, f2, f3, f4, f5⟩ := chain_facts Hok.out hcase.out.2
    rw [← hC.out, ← hN.out] at f3
    rw [← hC.out] at f1 f2 f4 f5
    rw [hCM.out] at f1 f2 f3 f4 f5
    have F3 := Lib.hid f3; have F4 := Lib.hid f4; have F5 := Lib.hid f5
    clear f3 f4 f5
    obtain ⟨S0, hS0⟩ : ∃ S0 : List Int, Hid (S0 = p.sparesOf) := ⟨_, rfl⟩
    have hEe : Hid (p.earlyOf.length = N) := by rw [hN.out, show p.earlyOf = p.early from if_pos Hok.out, early_len]; exact Lib.hid rfl
    have HSa : Hid (∀ k, k < N → S0.getD k 0 = spC p k) := by
      rw [hS0.out]
      intro k hk
      rw [Pj.sparesOf, rowOf_getD _ _ _ (by rw [hEe.out]; exact hk), spF, show p.earlyOf = p.early from if_pos Hok.out, show p.lateOf = p.late from if_pos Hok.out]
      rfl
    have hSN : Hid (S0.length = N) := by rw [hS0.out, Pj.sparesOf, rowOf_length]; exact hEe
    have hlN : Hid (l.length = N) := by rw [hN.out, hpl.out]; exact Lib.hid rfl
    obtain ⟨hl6, haf, hLs, hAs⟩ := ok_upto Hok.out
    have hN6 : N ≤ 6 := by rw [hN.out]; exact hl6
    have HLs := Lib.hid hLs
    have HAs := Lib.hid hAs
    have hUN : Hid (t.length = N) := by rw [← hpt.out, haf, hN.out]; exact Lib.hid rfl
    have hlen := len_in Hok.out
    obtain ⟨ln, hln⟩ : ∃ x, Hid (x = p.len) := ⟨_, rfl⟩
    rw [← hln.out] at hlen
    rw [← hM.out] at X hz0 ⊢
    rw [hlN.out] at V A0
    rw [hUN.out] at U A0
    clear hl6 haf hLs hAs hE0
    clear rcA0 rzA0 rlA0
    obtain ⟨rcA0, rzA0⟩ := (A0).rules; have rlA0 := (A0).lt
    go_wp2_with fail
    refine (impl_SparesOf p (.slice a1 N c1) (.slice a2 N c2) _ (V.out.base (Nat.zero_le _)) (U.out.base (Nat.zero_le _))).mono ?_
    rintro e w6 ⟨vS, rfl, hS, hb6⟩
    clear rcA0 rzA0 rlA0
    have A0 := A0.ext hb6
    have V := Lib.hid (V.out.ext hb6)
    have U := Lib.hid (U.out.ext hb6)
    have X := Lib.hid (X.out.ext hb6)
    have Y := Lib.hid (Y.out.ext hb6)
    have E := ext_trans E hb6
    clear hb6
    obtain ⟨aS, cS, rfl, -⟩ := hS.open
    have S := Lib.hid hS
    clear hS
    rw [← hS0.out] at S ⊢
    rw [hSN.out] at S ⊢
    obtain ⟨rcA0, rzA0⟩ := (A0).rules; have rlA0 := (A0).lt
    go_wp2_with fail
    go_loopg [6, 7] M (fun m ss kk wr => ∃ k : Nat, k ≤ M ∧ m = M - k ∧ kk = .int .i64 k ∧ (∃ s : Int, ss = .int .i64 s ∧ 0 ≤ s ∧ s ≤ 20 * k ∧ Hid (s = sumUp (fun j => p.L (C.getD j 0)) k)) ∧ Below w6.heap.size w6 wr)
    case atStart => exact ⟨0, by omega, by omega, rfl, ⟨0, rfl, by omega, by omega, Lib.hid rfl⟩, ext_refl _⟩
    case round =>
      clear rcA0 rzA0 rlA0
      obtain ⟨k, hk, hgk, rfl, ⟨s, rfl, hs0, hs1, Hs⟩, hbel⟩ := hrel
      have Hk := Lib.hid hgk
      clear hgk
      have A1 := A0.ext hbel
      have E1 := ext_trans E hbel
      have hsz := hbel.size
      obtain ⟨rc1, rz1⟩ := (A1).rules; have rl1 := (A1).lt
      by_cases hlt : k < M
      · obtain ⟨z, Hz⟩ : ∃ z, Hid (z = C.getD k 0) := ⟨_, rfl⟩
        have hf3 := F3.out k hlt
        rw [← Hz.out] at hf3
        obtain ⟨hzN, hsp⟩ := hf3
        have Hsp := Lib.hid hsp
        clear hsp
        have hkT : k < T0.length := by rw [← hM.out]; exact hlt
        obtain ⟨gx, hax, _, hgx, _, cx⟩ := (X.out.ext hbel).at_ hkT
        subst hax
        rw [hTC.out, ints_getD, ← Hz.out] at cx
        have hzS : z < S0.length := by rw [hSN.out]; exact hzN
        obtain ⟨gs, has, _, hgs, _, cs⟩ := (S.out.ext hbel).at_ hzS
        subst has
        rw [HSa.out z hzN, Hsp.out] at cs
        have hzl : z < p.lo.length := by rw [← hN.out]; exact hzN
        obtain ⟨g1, ha1, _, hg1, _, c1'⟩ := (V.out.ext hbel).at_ hzl
        subst ha1
        obtain ⟨y, Hy⟩ : ∃ y, Hid (y = p.L z) := ⟨_, rfl⟩
        have hy := HLs.out z hzl
        rw [← Hy.out] at hy
        rw [show p.lo.getD z 0 = y from Hy.out.symm] at c1'
        have hza : z < p.af.length := by rw [hpt.out, hUN.out]; exact hzN
        obtain ⟨g2, ha2, _, hg2, _, c2'⟩ := (U.out.ext hbel).at_ hza
        subst ha2
        obtain ⟨b, Hb⟩ : ∃ b, Hid (b = p.A z) := ⟨_, rfl⟩
        have hb := HAs.out z hzl
        have hb1 : 0 ≤ b ∧ b ≤ 64 := by have := two_pow_in z (by omega); rw [Hb.out]; omega
        rw [show p.af.getD z 0 = b from Hb.out.symm] at c2'
        clear hb hkT hzS hzl hza
        have hw : IntKind.i64.wrap (s + y) = s + y := IntWalk.i64_in _ (by omega)
        have hsum : Hid (s + y = sumUp (fun j => p.L (C.getD j 0)) (k+1)) := by show Hid (_ = sumUp _ k + p.L (C.getD k 0)); rw [← Hs.out, ← Hz.out, ← Hy.out]; exact Lib.hid rfl
        by_cases hk0 : k = 0
        · subst hk0
          go_wp2_with fail
          go_quiet (fail)
          go_wp2_with fail
          go_quiet (fail)
          go_wp2_with fail
          go_roundg (M - (1))
          case rel => exact ⟨1, by omega, rfl, by go_num, ⟨s + y, rfl, by omega, by omega, hsum⟩, by first | exact ext_trans hbel (ext_drewN' _ _) | exact ext_trans (ext_trans hbel (ext_drewN' _ _)) (ext_drewN' _ _)⟩
          case measure => have := Hk.out; omega
        · obtain ⟨j, Hj⟩ : ∃ j, Hid (k = j + 1) := ⟨k - 1, by show k = k - 1 + 1; omega⟩
          obtain ⟨z1, Hz1⟩ : ∃ z, Hid (z = C.getD j 0) := ⟨_, rfl⟩
          have hf4 := F4.out j (by have := Hj.out; omega)
          rw [← Hj.out, ← Hz.out, ← Hz1.out, ← Hb.out] at hf4
          obtain ⟨hzz, hbit⟩ := hf4
          have hjM : j < M := by have := Hj.out; omega
          have hjT : j < T0.length := by rw [← hM.out]; exact hjM
          obtain ⟨_, hax, _, _, _, cj⟩ := (X.out.ext hbel).at_ hjT
          cases hax
          rw [hTC.out, ints_getD, ← Hz1.out] at cj
          have hkw : IntKind.i64.wrap ((k : Int) - 1) = (j : Int) := by have := Hj.out; rw [IntWalk.i64_in _ (by omega)]; omega
          have hd := div_pow_le b z1 hb1.1 (by omega)
          have hm2 := Int.emod_two_eq (b / 2 ^ z1)
          have he : (b / 2 ^ z1 % 2 == 0) = false := by
            have h1 : (b / 2 ^ z1 % 2 == 1) = true := hbit
            simp at h1 ⊢
            omega
          have hk1 : 0 < k := by omega
          clear hbit hm2 hjT
          go_wp2_with fail
          go_quiet (fail)
          go_wp2_with fail
          go_quiet (fail)
          go_wp2_with fail
          go_roundg (M - (k+1))
          case rel => exact ⟨k+1, by omega, rfl, by go_num, ⟨s + y, rfl, by omega, by omega, hsum⟩, by first | exact ext_trans hbel (ext_drewN' _ _) | exact ext_trans (ext_trans hbel (ext_drewN' _ _)) (ext_drewN' _ _)⟩
          case measure => have := Hk.out; omega
      · have hkM : M = k := by omega
        subst hkM
        go_wp2_with fail
        refine (impl_LengthOf p (.slice a1 N c1) (.slice a2 N c2) _ ((V.out.ext hbel).base (Nat.zero_le _)) ((U.out.ext hbel).base (Nat.zero_le _))).mono ?_
        rintro e w20 ⟨rfl, hb20⟩
        rw [show p.lenOf = s by rw [show p.lenOf = p.len from if_pos Hok.out, Hs.out]; exact F5.out.symm]
        have X2 := Lib.hid ((X.out.ext hbel).ext hb20)
        go_wp2_with fail
        refine (laws_ascend _ T0 _ (X2.out.base (Nat.zero_le _)) ?_).mono ?_
        · intro i hi
          rw [hTC.out, ints_getD, ints_getD]
          have := (F4.out i (by rw [hM.out]; exact hi)).1
          omega
        rintro e w21 ⟨rfl, hb21⟩
        go_wp2_with fail
        go_ret
        exact ⟨rfl, ext_trans (ext_trans E1 hb20) hb21⟩
end Go.Proofs.Ytllicgomlohffaa
