/- The walk of GreedyBy of spec. Condition: the numbers can be read. -/
import Derived.Test.YtdfcjhcnojgkiaaByS
namespace Go.Proofs.Ytdfcjhcnojgkiaa
open Go.RowKit
set_option linter.unusedVariables false
set_option linter.unusedSimpArgs false
/-- whether a task begins at a time, by the first j of those before it -/
def gmTo (p : Pj) (l : List Int) (h : Int) (t : Nat) (T : Int) (j : Nat) : Bool := (decide (lF l t = -1) && decide (busyTo (lF l) p.L T p.lo.length < h)) && (List.range j).all (fun k => !(bit (p.A t) k) || (decide (lF l k ≠ -1) && decide (lF l k + p.L k ≤ T)))
theorem gmTo_next (p : Pj) (l : List Int) (h : Int) (t : Nat) (T : Int) (j : Nat) : gmTo p l h t T (j+1) = (gmTo p l h t T j && (!(bit (p.A t) j) || (decide (lF l j ≠ -1) && decide (lF l j + p.L j ≤ T)))) := by
  simp [gmTo, List.range_succ, List.all_append, Bool.and_assoc]
theorem gmTo_all (p : Pj) (l : List Int) (h : Int) (t : Nat) (T : Int) : gmTo p l h t T t = p.gmay l h t T := by
  show ((decide (lF l t = -1) && decide (busyTo (lF l) p.L T p.lo.length < h)) && p.past l t T) = _
  unfold Pj.gmay
  rw [Bool.and_assoc, Bool.and_comm (decide (busyTo (lF l) p.L T p.lo.length < h))]
set_option maxRecDepth 100000 in
set_option maxHeartbeats 4000000 in
theorem spec_GreedyBy (p : Pj) (v1 v2 v3 : Value) (h : Int) (o : List Int) (w : World) (h1 : Ints w 0 v1 p.lo) (h2 : Ints w 0 v2 p.af) (h3 : Ints w 0 v3 o) (hlen : p.lo.length ≤ 4000000) :
    Calls Try.prog 18 #[.agg #[v1, v2], .int .i64 h, v3] w (RetIntsB w (p.greedyBy h o) (p.ordFit h o)) := by
  have H1 := Lib.hid h1; have H2 := Lib.hid h2; have H3 := Lib.hid h3
  obtain ⟨a1, c1, rfl, hn1, hc1, -⟩ := h1.open
  obtain ⟨a2, c2, rfl, hn2, hc2, -⟩ := h2.open
  obtain ⟨a3, c3, rfl, hn3, hc3, -⟩ := h3.open
  clear h1 h2 h3
  go_enter Try.func18, Try.ntmps18
  go_wp2_with fail
  obtain ⟨W, hW, A0, hs, E⟩ := one_box w #[.slice a1 p.lo.length c1, .slice a2 p.af.length c2] 27
  rw [← hW.out]
  refine (spec_ProjectOk p _ _ _ (H1.out.ext E) (H2.out.ext E)).mono ?_
  rintro e w1 ⟨rfl, hb1⟩
  have A0 := A0.ext hb1
  have E := ext_trans E hb1
  obtain ⟨rc0, rz0⟩ := (A0).rules; have rl0 := (A0).lt
  cases hok : p.ok
  · have hf : Hid (p.ordFit h o = false) := by simp [Pj.ordFit, hok]; exact Lib.hid trivial
    have Hr : Hid (p.greedyBy h o = []) := Lib.hid (if_neg (by rw [hf.out]; simp))
    clear hok
    go_upto_region 3 with fail
    obtain ⟨w9, hw9, T9, hs9, hb9⟩ := one_box _ #[] 3
    rw [← hw9.out]
    go_wp2_with fail
    go_ret2
    exact ⟨_, by rw [hf.out]; rfl, by rw [Hr.out]; exact Ints.ofBox T9 E.size, ext_trans E hb9⟩
  have Hok := Lib.hid hok
  clear hok
  go_wp2_with fail
  refine (spec_l1In _ _ _ _).mono ?_
  rintro e w2 ⟨rfl, rfl⟩
  cases hh : inB h 1 3
  · have hf : Hid (p.ordFit h o = false) := by simp [Pj.ordFit, hh]; exact Lib.hid trivial
    have Hr : Hid (p.greedyBy h o = []) := Lib.hid (if_neg (by rw [hf.out]; simp))
    clear hh
    go_upto_region 3 with fail
    obtain ⟨w9, hw9, T9, hs9, hb9⟩ := one_box _ #[] 3
    rw [← hw9.out]
    go_wp2_with fail
    go_ret2
    exact ⟨_, by rw [hf.out]; rfl, by rw [Hr.out]; exact Ints.ofBox T9 E.size, ext_trans E hb9⟩
  have hfo : Hid (p.ordFit h o = orderOk o p.lo.length) := by simp [Pj.ordFit, hh, Hok.out]; exact Lib.hid trivial
  clear hh
  go_wp2_with fail
  refine (spec_OrderOk _ o p.lo.length _ (H3.out.ext E) hlen).mono ?_
  rintro e w3 ⟨rfl, hb3⟩
  have A0 := A0.ext hb3
  have E := ext_trans E hb3
  clear rc0 rz0 rl0
  cases hoo : orderOk o p.lo.length
  · have hf : Hid (p.ordFit h o = false) := by rw [hfo.out]; exact hoo
    have Hr : Hid (p.greedyBy h o = []) := Lib.hid (if_neg (by rw [hf.out]; simp))
    clear hoo
    go_upto_region 3 with fail
    obtain ⟨w9, hw9, T9, hs9, hb9⟩ := one_box _ #[] 3
    rw [← hw9.out]
    go_wp2_with fail
    go_ret2
    exact ⟨_, by rw [hf.out]; rfl, by rw [Hr.out]; exact Ints.ofBox T9 E.size, ext_trans E hb9⟩
  have hf : Hid (p.ordFit h o = true) := by rw [hfo.out]; exact hoo
  clear hoo
  have hfx := hf.out
  obtain ⟨hok, hh, ho⟩ := ordFit_in hfx
  obtain ⟨hl6, haf, hLs, hAs⟩ := ok_upto hok
  have HLs := Lib.hid hLs; have Ho := Lib.hid ho; have HAs := Lib.hid hAs
  have hin := Lib.hid (order_in ho)
  obtain ⟨n, hn⟩ : ∃ n, Hid (n = p.lo.length) := ⟨_, rfl⟩
  have hn3' : Hid (o.length = n) := by rw [hn.out]; exact hin.out.2.1
  have hf2 : Hid (p.af.length = n) := by rw [hn.out]; exact haf
  clear hfx hok haf hLs ho hAs
  rename World => w1
  rw [← hn.out] at hl6 hn1 A0 ⊢
  rw [hn3'.out] at hn3 ⊢
  have q1 := E.size
  have htaken : Hid (∀ l (T : Int) wx v3, Below w1.heap.size w1 wx → Ints wx 0 v3 l → Smalls p l → Calls Try.prog 42 #[.agg #[.slice a1 n c1, .slice a2 p.af.length c2], v3, .int .i64 T] wx fun e w' => e = .returned (.int .i64 (busyTo (lF l) p.L T n)) ∧ Below wx.heap.size wx w') := by
    intro l T wx v3 hbx hi hs
    rw [hn.out]
    exact spec_l10Taken p _ _ v3 l T wx ((H1.out.ext E).ext hbx) ((H2.out.ext E).ext hbx) hi Hok.out hs
  go_upto_region 4 with fail
  obtain ⟨W2, hW2, T0, hs2, hb⟩ := one_box w1 #[] 3
  rw [← hW2.out]
  have O : Hid (Ints W2 w1.heap.size (.slice (some ⟨w1.heap.size, 0, none⟩) 0 0) (List.replicate 0 (-1))) := Lib.hid (Ints.ofBox T0 (Nat.le_refl _))
  clear T0
  go_wp2_with fail
  go_loopg [8, 9] n (fun m vo kk wr => ∃ k : Nat, k ≤ n ∧ m = n - k ∧ kk = .int .i64 k ∧ Hid (Ints wr w1.heap.size vo (List.replicate k (-1))) ∧ Below w1.heap.size w1 wr)
  case atStart => exact ⟨0, by omega, by omega, rfl, O, hb⟩
  case round =>
    clear O hb
    obtain ⟨k, hk, hgk, rfl, O, hb⟩ := hrel
    have Hk := Lib.hid hgk
    clear hgk
    obtain ⟨ao, co, rfl, hco, -⟩ := O.out.open
    rw [List.length_replicate] at O hco ⊢
    by_cases hlk : k < n
    · go_wp2_with (at_builtin; refine wpl_appI _ rfl (.tmp 39) (.tmp 40) rfl w1.heap.size 0 (.slice ao k co) (List.replicate k (-1)) rfl (O.out.alloc _) (.slice (some ⟨wr.heap.size, 0, none⟩) 1 1) [-1] rfl ((Ints.lit wr (-1)).base (Nat.zero_le _)) (by simp; omega) (by have := hb.size; simp; omega) ?_; intro v9 w9 hv9 hg9)
      have hb := ext_grown (ext_alloc hb _) hg9 (fun q hq => (O.out.lt q hq).1)
      have O : Hid (Ints w9 w1.heap.size v9 (List.replicate (k+1) (-1))) := by rw [List.replicate_succ']; exact Lib.hid hv9
      clear hv9 hg9
      go_roundg (n - (k+1))
      case rel => exact ⟨k+1, by omega, rfl, by go_num, O, hb⟩
      case measure => have := Hk.out; omega
    · have hkn : k = n := by omega
      subst hkn
      rename World => w2
      go_wp2_with fail
      have R : Hid (Ints w2 w1.heap.size (.slice ao k co) (p.gTo h o 0)) := by rw [show p.gTo h o 0 = List.replicate k (-1) by rw [hn.out]; rfl]; exact O
      clear O hk Hk
      obtain ⟨N, hN⟩ : ∃ N, N = k := ⟨_, rfl⟩
      subst hN
      have hround : Hid (∀ (T k : Nat), k ≤ N → UpTo p T (p.gIn h o T (p.gTo h o T) k)) := Lib.hid (fun T k hk => (gTo_up Ho.out T).round Ho.out (by omega) k (by rw [hn3'.out]; exact hk))
      go_loopg [10] 200 (fun m ss wr => ∃ T : Nat, T ≤ 121 ∧ m = 200 - T ∧ ss = .int .i64 T ∧ Hid (Ints wr w1.heap.size (.slice ao N co) (p.gTo h o T)) ∧ Below w1.heap.size w1 wr)
      case atStart => exact ⟨0, by omega, by omega, rfl, R, hb⟩
      case round =>
        clear R hb
        rename World => wr
        obtain ⟨T, hT, hgk, rfl, R, hb⟩ := hrel
        have HT := Lib.hid hgk
        clear hgk
        by_cases hT2 : T ≤ 120
        · have hT3 : (T : Int) ≤ 120 := by omega
          go_wp2_with fail
          go_loopg [11] N (fun m kk wx => ∃ k : Nat, k ≤ N ∧ m = N - k ∧ kk = .int .i64 k ∧ Hid (Ints wx w1.heap.size (.slice ao N co) (p.gIn h o T (p.gTo h o T) k)) ∧ Below w1.heap.size w1 wx)
          case atStart => exact ⟨0, by omega, by omega, rfl, R, hb⟩
          case round =>
            clear R hb
            rename World => wx
            obtain ⟨k, hk, hgk, rfl, R, hb⟩ := hrel
            have Hk := Lib.hid hgk
            clear hgk
            by_cases hlk : k < N
            · obtain ⟨L, HL⟩ : ∃ L, Hid (L = p.gIn h o T (p.gTo h o T) k) := ⟨_, rfl⟩
              have hsm : Hid (Smalls p L) := by rw [HL.out]; exact Lib.hid ((hround.out T k hk).smalls (by omega))
              have hLl : Hid (L.length = N) := by rw [hn.out]; exact Lib.hid hsm.out.1
              rw [← HL.out] at R
              obtain ⟨t, ht⟩ : ∃ t, Hid (t = oN o k) := ⟨_, rfl⟩
              have hko := hin.out.2.2 k (by rw [← hn.out]; exact hlk)
              rw [← ht.out, ← hn.out] at hko
              have htn := hko.2
              have E1 := ext_trans E hb
              obtain ⟨g3, ha3, _, hg3, _, cx⟩ := (H3.out.ext E1).at_ (j := k) (by rw [hn3'.out]; exact hlk)
              subst ha3
              rw [hko.1] at cx
              clear hko
              have hnx : Hid (p.gIn h o T (p.gTo h o T) (k+1) = if p.gmay L h t T then L.set t T else L) := by rw [HL.out, ht.out]; exact Lib.hid rfl
              have hA := Pj.A_in (p := p) (by rw [← hn.out]; exact hl6) HAs.out (t := t) (by rw [← hn.out]; exact htn)
              obtain ⟨b, Hb⟩ : ∃ b, Hid (b = p.A t) := ⟨_, rfl⟩
              rw [← Hb.out] at hA
              obtain ⟨gr, har, hgrb, hgr, hfz, cr⟩ := R.out.at_ (j := t) (by rw [hLl.out]; exact htn)
              subst har
              obtain ⟨x, Hx⟩ : ∃ x, Hid (x = lF L t) := ⟨_, rfl⟩
              rw [show L.getD t 0 = x from Hx.out.symm] at cr
              have hxs := hsm.out.2 t (by rw [hLl.out]; exact htn)
              rw [show L.getD t 0 = x from Hx.out.symm] at hxs
              have A1 := A0.ext hb
              obtain ⟨rc0, rz0⟩ := (A1).rules; have rl0 := (A1).lt
              by_cases hx1 : x = -1
              · have hx0 : x < 0 := by omega
                have hx2 : decide (lF L t = -1) = true := decide_eq_true (by rw [← Hx.out]; exact hx1)
                clear hx1
                go_wp2_with fail
                refine (htaken.out L T _ _ hb (R.out.base (Nat.zero_le _)) hsm.out).mono ?_
                rintro e w5 ⟨rfl, hb5⟩
                have hb := ext_trans hb hb5
                have R := Lib.hid (R.out.ext hb5)
                clear rc0 rz0 rl0 hb5 A1 E1 cx hg3 hgrb hgr hfz cr
                obtain ⟨_, hae, hgrb, hgr, hfz, cr⟩ := R.out.at_ (j := t) (by rw [hLl.out]; exact htn)
                cases hae
                obtain ⟨bb, Hbb⟩ : ∃ b, Hid (b = busyTo (lF L) p.L T N) := ⟨_, rfl⟩
                rw [← Hbb.out]
                have hg0 : Hid (gmTo p L h t T 0 = decide (bb < h)) := by
                  show Hid (((decide (lF L t = -1) && decide (busyTo (lF L) p.L T p.lo.length < h)) && true) = decide (bb < h))
                  rw [hx2, ← hn.out, ← Hbb.out, Bool.true_and, Bool.and_true]; exact Lib.hid rfl
                clear hx2
                go_wp2_with fail
                go_loopg [13, 14] t (fun m mm jj wy => ∃ j : Nat, j ≤ t ∧ m = t - j ∧ jj = .int .i64 j ∧ mm = .bool (gmTo p L h t T j) ∧ Hid (Ints wy w1.heap.size (.slice (some ⟨gr, 0, none⟩) N co) L) ∧ Below w1.heap.size w1 wy)
                case atStart => exact ⟨0, by omega, by omega, rfl, by rw [hg0.out], R, hb⟩
                case round =>
                  clear R hb hgrb hgr hfz cr
                  rename World => wy
                  obtain ⟨j, hj, hgk, rfl, rfl, R, hb⟩ := hrel
                  have Hj := Lib.hid hgk
                  clear hgk
                  have E1 := ext_trans E hb
                  have A1 := A0.ext hb
                  obtain ⟨my, Hmy⟩ : ∃ my, Hid (my = gmTo p L h t T j) := ⟨_, rfl⟩
                  rw [← Hmy.out]
                  by_cases hlj : j < t
                  · have hjo : j < p.lo.length := by rw [← hn.out]; omega
                    have hjl : j < L.length := by rw [hLl.out]; omega
                    have hta : t < p.af.length := by rw [hf2.out]; exact htn
                    obtain ⟨g2, ha2, _, hg2, _, cb⟩ := (H2.out.ext E1).at_ hta
                    obtain ⟨g1, ha1, _, hg1, _, cy⟩ := (H1.out.ext E1).at_ hjo
                    obtain ⟨_, hae, _, hgr, hfz, cu⟩ := R.out.at_ hjl
                    cases hae
                    subst ha1
                    subst ha2
                    rw [show p.af.getD t 0 = b from Hb.out.symm] at cb
                    obtain ⟨u, Hu⟩ : ∃ u, Hid (u = lF L j) := ⟨_, rfl⟩
                    obtain ⟨y, Hy⟩ : ∃ y, Hid (y = p.L j) := ⟨_, rfl⟩
                    have hu := hsm.out.2 j hjl
                    have hy := HLs.out j hjo
                    rw [show L.getD j 0 = u from Hu.out.symm] at cu hu
                    rw [show p.lo.getD j 0 = y from Hy.out.symm] at cy
                    rw [← Hy.out] at hy
                    have hw : IntKind.i64.wrap (u + y) = u + y := IntWalk.i64_in _ (by omega)
                    have hd := div_pow_le b j hA.1 (by omega)
                    have hmn : Hid (gmTo p L h t T (j+1) = (my && (!(bit b j) || (decide (u ≠ -1) && decide (u + y ≤ (T : Int)))))) := by rw [gmTo_next, Hmy.out, Hu.out, Hy.out, Hb.out]; exact Lib.hid rfl
                    clear hjo hjl
                    obtain ⟨rc0, rz0⟩ := (A1).rules; have rl0 := (A1).lt
                    cases hbit : bit b j
                    · have he : (b / 2 ^ j % 2 == 1) = false := hbit
                      have hmn2 : Hid (gmTo p L h t T (j+1) = my) := by rw [hmn.out, hbit]; simp; exact Lib.hid trivial
                      clear hbit
                      go_wp2_with fail
                      go_roundg (t - (j+1))
                      case rel => exact ⟨j+1, by omega, rfl, by go_num, by rw [hmn2.out], R, hb⟩
                      case measure => have := Hj.out; omega
                    · have he : (b / 2 ^ j % 2 == 1) = true := hbit
                      cases hm : my
                      · have hmn3 : Hid (gmTo p L h t T (j+1) = false) := by rw [hmn.out, hm]; exact Lib.hid rfl
                        clear hbit
                        go_wp2_with fail
                        go_quiet (fail)
                        go_wp2_with fail
                        go_roundg (t - (j+1))
                        case rel => exact ⟨j+1, by omega, rfl, by go_num, by rw [hmn3.out], Lib.hid (R.out.ext (ext_drewN3 _ _)), ext_trans hb (ext_drewN3 _ _)⟩
                        case measure => have := Hj.out; omega
                      · by_cases hu0 : u = -1
                        · have hd0 : decide (u ≥ 0) = false := decide_eq_false (by omega)
                          have hmn3 : Hid (gmTo p L h t T (j+1) = false) := by rw [hmn.out, hm, hbit, decide_eq_false (fun hne => hne hu0)]; exact Lib.hid rfl
                          clear hu0
                          clear hbit
                          go_wp2_with fail
                          go_quiet (fail)
                          go_wp2_with fail
                          go_roundg (t - (j+1))
                          case rel => exact ⟨j+1, by omega, rfl, by go_num, by rw [hmn3.out], Lib.hid (R.out.ext (ext_drewN3 _ _)), ext_trans hb (ext_drewN3 _ _)⟩
                          case measure => have := Hj.out; omega
                        · have hd0 : decide (u ≥ 0) = true := decide_eq_true (by omega)
                          by_cases huT : u + y ≤ (T : Int)
                          · have hd1 : decide (u + y ≤ (T : Int)) = true := decide_eq_true huT
                            have hmn3 : Hid (gmTo p L h t T (j+1) = true) := by rw [hmn.out, hm, hbit, decide_eq_true hu0, hd1]; exact Lib.hid rfl
                            clear hu0
                            clear hbit
                            go_wp2_with fail
                            go_quiet (fail)
                            go_wp2_with fail
                            go_roundg (t - (j+1))
                            case rel => exact ⟨j+1, by omega, rfl, by go_num, by rw [hmn3.out], Lib.hid (R.out.ext (ext_drewN3 _ _)), ext_trans hb (ext_drewN3 _ _)⟩
                            case measure => have := Hj.out; omega
                          · have hd1 : decide (u + y ≤ (T : Int)) = false := decide_eq_false huT
                            have hmn3 : Hid (gmTo p L h t T (j+1) = false) := by rw [hmn.out, hm, hbit, decide_eq_true hu0, hd1]; exact Lib.hid rfl
                            clear hu0
                            clear hbit
                            go_wp2_with fail
                            go_quiet (fail)
                            go_wp2_with fail
                            go_roundg (t - (j+1))
                            case rel => exact ⟨j+1, by omega, rfl, by go_num, by rw [hmn3.out], Lib.hid (R.out.ext (ext_drewN3 _ _)), ext_trans hb (ext_drewN3 _ _)⟩
                            case measure => have := Hj.out; omega
                  · have hjt : j = t := by omega
                    have hmE : Hid (my = p.gmay L h t T) := by rw [Hmy.out, hjt]; exact Lib.hid (gmTo_all p L h t T)
                    clear hjt Hmy
                    obtain ⟨_, hae, hgrb, hgr, hfz, cr⟩ := R.out.at_ (j := t) (by rw [hLl.out]; exact htn)
                    cases hae
                    cases hm : my
                    · have Hm : Hid (p.gIn h o T (p.gTo h o T) (k+1) = L) := by rw [hnx.out, ← hmE.out, hm]; exact Lib.hid rfl
                      clear hm
                      go_wp2_with fail
                      go_roundg (N - (k+1))
                      case rel => exact ⟨k+1, by omega, rfl, by go_num, by rw [Hm.out]; exact R, hb⟩
                      case measure => have := Hk.out; omega
                    · have Hm : Hid (p.gIn h o T (p.gTo h o T) (k+1) = L.set t T) := by rw [hnx.out, ← hmE.out, hm]; exact Lib.hid rfl
                      have R := Lib.hid (R.out.set t T)
                      clear hm
                      go_wp2_with fail
                      go_roundg (N - (k+1))
                      case rel => exact ⟨k+1, by omega, rfl, by go_num, by rw [Hm.out]; exact R, ext_set hb (by dsimp only; omega) _⟩
                      case measure => have := Hk.out; omega
              · have hx0 : ¬ x < 0 := by omega
                have hg0 : Hid (gmTo p L h t T 0 = false) := by
                  show Hid (((decide (lF L t = -1) && decide (busyTo (lF L) p.L T p.lo.length < h)) && true) = false)
                  rw [decide_eq_false (by rw [← Hx.out]; exact hx1)]; exact Lib.hid rfl
                clear hx1 A1 E1
                go_wp2_with fail
                go_loopg [13, 14] t (fun m mm jj wy => ∃ j : Nat, j ≤ t ∧ m = t - j ∧ jj = .int .i64 j ∧ mm = .bool (gmTo p L h t T j) ∧ Hid (Ints wy w1.heap.size (.slice (some ⟨gr, 0, none⟩) N co) L) ∧ Below w1.heap.size w1 wy)
                case atStart => exact ⟨0, by omega, by omega, rfl, by rw [hg0.out], R, hb⟩
                case round =>
                  clear R hb hgrb hgr hfz cr
                  rename World => wy
                  obtain ⟨j, hj, hgk, rfl, rfl, R, hb⟩ := hrel
                  have Hj := Lib.hid hgk
                  clear hgk
                  have E1 := ext_trans E hb
                  have A1 := A0.ext hb
                  obtain ⟨my, Hmy⟩ : ∃ my, Hid (my = gmTo p L h t T j) := ⟨_, rfl⟩
                  rw [← Hmy.out]
                  by_cases hlj : j < t
                  · have hjo : j < p.lo.length := by rw [← hn.out]; omega
                    have hjl : j < L.length := by rw [hLl.out]; omega
                    have hta : t < p.af.length := by rw [hf2.out]; exact htn
                    obtain ⟨g2, ha2, _, hg2, _, cb⟩ := (H2.out.ext E1).at_ hta
                    obtain ⟨g1, ha1, _, hg1, _, cy⟩ := (H1.out.ext E1).at_ hjo
                    obtain ⟨_, hae, _, hgr, hfz, cu⟩ := R.out.at_ hjl
                    cases hae
                    subst ha1
                    subst ha2
                    rw [show p.af.getD t 0 = b from Hb.out.symm] at cb
                    obtain ⟨u, Hu⟩ : ∃ u, Hid (u = lF L j) := ⟨_, rfl⟩
                    obtain ⟨y, Hy⟩ : ∃ y, Hid (y = p.L j) := ⟨_, rfl⟩
                    have hu := hsm.out.2 j hjl
                    have hy := HLs.out j hjo
                    rw [show L.getD j 0 = u from Hu.out.symm] at cu hu
                    rw [show p.lo.getD j 0 = y from Hy.out.symm] at cy
                    rw [← Hy.out] at hy
                    have hw : IntKind.i64.wrap (u + y) = u + y := IntWalk.i64_in _ (by omega)
                    have hd := div_pow_le b j hA.1 (by omega)
                    have hmn : Hid (gmTo p L h t T (j+1) = (my && (!(bit b j) || (decide (u ≠ -1) && decide (u + y ≤ (T : Int)))))) := by rw [gmTo_next, Hmy.out, Hu.out, Hy.out, Hb.out]; exact Lib.hid rfl
                    clear hjo hjl
                    obtain ⟨rc0, rz0⟩ := (A1).rules; have rl0 := (A1).lt
                    cases hbit : bit b j
                    · have he : (b / 2 ^ j % 2 == 1) = false := hbit
                      have hmn2 : Hid (gmTo p L h t T (j+1) = my) := by rw [hmn.out, hbit]; simp; exact Lib.hid trivial
                      clear hbit
                      go_wp2_with fail
                      go_roundg (t - (j+1))
                      case rel => exact ⟨j+1, by omega, rfl, by go_num, by rw [hmn2.out], R, hb⟩
                      case measure => have := Hj.out; omega
                    · have he : (b / 2 ^ j % 2 == 1) = true := hbit
                      cases hm : my
                      · have hmn3 : Hid (gmTo p L h t T (j+1) = false) := by rw [hmn.out, hm]; exact Lib.hid rfl
                        clear hbit
                        go_wp2_with fail
                        go_quiet (fail)
                        go_wp2_with fail
                        go_roundg (t - (j+1))
                        case rel => exact ⟨j+1, by omega, rfl, by go_num, by rw [hmn3.out], Lib.hid (R.out.ext (ext_drewN3 _ _)), ext_trans hb (ext_drewN3 _ _)⟩
                        case measure => have := Hj.out; omega
                      · by_cases hu0 : u = -1
                        · have hd0 : decide (u ≥ 0) = false := decide_eq_false (by omega)
                          have hmn3 : Hid (gmTo p L h t T (j+1) = false) := by rw [hmn.out, hm, hbit, decide_eq_false (fun hne => hne hu0)]; exact Lib.hid rfl
                          clear hu0
                          clear hbit
                          go_wp2_with fail
                          go_quiet (fail)
                          go_wp2_with fail
                          go_roundg (t - (j+1))
                          case rel => exact ⟨j+1, by omega, rfl, by go_num, by rw [hmn3.out], Lib.hid (R.out.ext (ext_drewN3 _ _)), ext_trans hb (ext_drewN3 _ _)⟩
                          case measure => have := Hj.out; omega
                        · have hd0 : decide (u ≥ 0) = true := decide_eq_true (by omega)
                          by_cases huT : u + y ≤ (T : Int)
                          · have hd1 : decide (u + y ≤ (T : Int)) = true := decide_eq_true huT
                            have hmn3 : Hid (gmTo p L h t T (j+1) = true) := by rw [hmn.out, hm, hbit, decide_eq_true hu0, hd1]; exact Lib.hid rfl
                            clear hu0
                            clear hbit
                            go_wp2_with fail
                            go_quiet (fail)
                            go_wp2_with fail
                            go_roundg (t - (j+1))
                            case rel => exact ⟨j+1, by omega, rfl, by go_num, by rw [hmn3.out], Lib.hid (R.out.ext (ext_drewN3 _ _)), ext_trans hb (ext_drewN3 _ _)⟩
                            case measure => have := Hj.out; omega
                          · have hd1 : decide (u + y ≤ (T : Int)) = false := decide_eq_false huT
                            have hmn3 : Hid (gmTo p L h t T (j+1) = false) := by rw [hmn.out, hm, hbit, decide_eq_true hu0, hd1]; exact Lib.hid rfl
                            clear hu0
                            clear hbit
                            go_wp2_with fail
                            go_quiet (fail)
                            go_wp2_with fail
                            go_roundg (t - (j+1))
                            case rel => exact ⟨j+1, by omega, rfl, by go_num, by rw [hmn3.out], Lib.hid (R.out.ext (ext_drewN3 _ _)), ext_trans hb (ext_drewN3 _ _)⟩
                            case measure => have := Hj.out; omega
                  · have hjt : j = t := by omega
                    have hmE : Hid (my = p.gmay L h t T) := by rw [Hmy.out, hjt]; exact Lib.hid (gmTo_all p L h t T)
                    clear hjt Hmy
                    obtain ⟨_, hae, hgrb, hgr, hfz, cr⟩ := R.out.at_ (j := t) (by rw [hLl.out]; exact htn)
                    cases hae
                    cases hm : my
                    · have Hm : Hid (p.gIn h o T (p.gTo h o T) (k+1) = L) := by rw [hnx.out, ← hmE.out, hm]; exact Lib.hid rfl
                      clear hm
                      go_wp2_with fail
                      go_roundg (N - (k+1))
                      case rel => exact ⟨k+1, by omega, rfl, by go_num, by rw [Hm.out]; exact R, hb⟩
                      case measure => have := Hk.out; omega
                    · have Hm : Hid (p.gIn h o T (p.gTo h o T) (k+1) = L.set t T) := by rw [hnx.out, ← hmE.out, hm]; exact Lib.hid rfl
                      have R := Lib.hid (R.out.set t T)
                      clear hm
                      go_wp2_with fail
                      go_roundg (N - (k+1))
                      case rel => exact ⟨k+1, by omega, rfl, by go_num, by rw [Hm.out]; exact R, ext_set hb (by dsimp only; omega) _⟩
                      case measure => have := Hk.out; omega
            · have hkn : Hid (p.gTo h o (T+1) = p.gIn h o T (p.gTo h o T) k) := by
                rw [show k = o.length by rw [hn3'.out]; omega]; exact Lib.hid rfl
              go_wp2_with fail
              go_roundg (200 - (T+1))
              case rel => exact ⟨T+1, by omega, rfl, by go_num, by rw [hkn.out]; exact R, hb⟩
              case measure => have := HT.out; omega
        · have hT3 : ¬ ((T : Int) ≤ 120) := by omega
          have hend : Hid (p.greedyBy h o = p.gTo h o T) := by
            rw [show T = 121 by omega]; exact Lib.hid (if_pos hf.out)
          go_wp2_with fail
          go_ret2
          exact ⟨_, by rw [hf.out]; rfl, by rw [hend.out]; exact R.out.base (by omega), ext_trans E hb⟩
end Go.Proofs.Ytdfcjhcnojgkiaa
