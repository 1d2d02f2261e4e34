/- The walk of GreedyBy of impl. Condition: the numbers can be read. -/
import Derived.Test.YtdfcjhcnojgkiaaByI
import Derived.Test.YtdfcjhcnojgkiaaBy
namespace Go.Proofs.Ytdfcjhcnojgkiaa
open Go.RowKit
set_option linter.unusedVariables false
set_option linter.unusedSimpArgs false
theorem past_low {p : Pj} {l : List Int} {t : Nat} {T : Int} (h0 : 0 ≤ T) : p.past l t T = (p.pre l t && decide (fromV p l t ≤ T)) := by
  cases hp : p.pre l t
  · cases hc : p.past l t T
    · rfl
    · have : p.pre l t = true := pre_iff.2 fun k hk hb => (past_iff.1 hc k hk hb).1
      rw [hp] at this; cases this
  · have e : fromV p l t = startUp p.L p.A (lF l) t t := if_pos hp
    rw [Bool.true_and, e]
    by_cases hT : startUp p.L p.A (lF l) t t ≤ T
    · rw [decide_eq_true hT]
      exact past_iff.2 fun k hk hb => ⟨pre_iff.1 hp k hk hb, Int.le_trans (startUp_up p.L p.A (lF l) t t k hk hb) hT⟩
    · rw [decide_eq_false hT]
      cases hc : p.past l t T
      · rfl
      · exfalso
        rcases startUp_hit p.L p.A (lF l) t t with h1 | ⟨k, h1, h2, h3⟩
        · omega
        · have := (past_iff.1 hc k h1 h2).2
          omega
theorem gmay_eq {p : Pj} {l : List Int} {h : Int} {t : Nat} {T : Int} (h0 : 0 ≤ T) : p.gmay l h t T = (decide (lF l t = -1) && (p.pre l t && (decide (fromV p l t ≤ T) && decide (busyTo (lF l) p.L T p.lo.length < h)))) := by
  unfold Pj.gmay
  rw [past_low h0, Bool.and_assoc]
theorem hasN_miss {l : List Int} {n : Nat} (hl : l.length = n) : (hasN l (-1) = true → ∃ m, m < n ∧ lF l m = -1) ∧ (hasN l (-1) = false → ∀ m, m < n → lF l m ≠ -1) := by
  constructor
  · intro h
    obtain ⟨j, hj, hx⟩ := of_decide_eq_true h
    exact ⟨j, by omega, hx⟩
  · intro h m hm hx
    exact of_decide_eq_false h ⟨m, by omega, hx⟩
theorem UpTo.smalls {p : Pj} {T : Int} {l : List Int} (hu : UpTo p T l) (hT : T ≤ 900000) : Smalls p l := by
  refine ⟨hu.1, fun j hj => ?_⟩
  have e : lF l j = l.getD j 0 := rfl
  have h1 := hu.2 j (by rw [← hu.1]; exact hj)
  omega
set_option maxRecDepth 100000 in
set_option maxHeartbeats 8000000 in
theorem impl_GreedyBy (p : Pj) (v1 v2 v3 : Value) (h : Int) (o : List Int) (w : World) (h1 : Ints w 0 v1 p.lo) (h2 : Ints w 0 v2 p.af) (h3 : Ints w 0 v3 o) (hlen : p.lo.length ≤ 4000000) :
    Calls Try.prog 19 #[.agg #[v1, v2], .int .i64 h, v3] w (RetIntsB w (p.greedyBy h o) (p.ordFit h o)) := by
  have H1 := Lib.hid h1; have H2 := Lib.hid h2; have H3 := Lib.hid h3
  obtain ⟨a1, c1, rfl, hn1, hc1, -⟩ := h1.open
  obtain ⟨a2, c2, rfl, hn2, hc2, -⟩ := h2.open
  obtain ⟨a3, c3, rfl, hn3, hc3, -⟩ := h3.open
  clear h1 h2 h3
  go_enter Try.func19, Try.ntmps19
  go_wp2_with fail
  obtain ⟨W, hW, A0, hs, E⟩ := one_box w #[.slice a1 p.lo.length c1, .slice a2 p.af.length c2] 27
  rw [← hW.out]
  refine (impl_orderFits p _ _ _ h o _ (H1.out.ext E) (H2.out.ext E) (H3.out.ext E) hlen).mono ?_
  rintro e w1 ⟨rfl, hb1⟩
  have A0 := A0.ext hb1
  have E := ext_trans E hb1
  obtain ⟨rc0, rz0⟩ := (A0).rules; have rl0 := (A0).lt
  cases hf : p.ordFit h o
  · have Hr : Hid (p.greedyBy h o = []) := Lib.hid (if_neg (by rw [hf]; simp))
    go_wp2_with fail
    go_ret2
    exact ⟨_, by rw [hf]; rfl, by rw [Hr.out]; exact Ints.nil _ _, E⟩
  have Hf := Lib.hid hf
  obtain ⟨hok, hh, ho⟩ := ordFit_in hf
  obtain ⟨hl6, haf, hLs, hAs⟩ := ok_upto hok
  have Hok := Lib.hid hok; have HLs := Lib.hid hLs; have Ho := Lib.hid ho
  have hin := Lib.hid (order_in ho)
  obtain ⟨n, hn⟩ : ∃ n, Hid (n = p.lo.length) := ⟨_, rfl⟩
  have hn3' : Hid (o.length = n) := by rw [hn.out]; exact hin.out.2.1
  clear hf hok haf hLs hAs ho hb1
  go_wp2_with fail
  refine (impl_none p _ _ _ (H1.out.ext E) (H2.out.ext E) hl6).mono ?_
  rintro e w2 ⟨v, rfl, hR, hb⟩
  rw [← hn.out] at hl6 A0 hR ⊢
  rw [hn3'.out] at hn3 ⊢
  obtain ⟨an, cn, rfl, hnn, hcn, -⟩ := hR.open
  rw [List.length_replicate] at hnn hR ⊢
  have q1 := E.size
  have hfrom : Hid (∀ l (t : Nat) wx v3, Below w1.heap.size w1 wx → Ints wx 0 v3 l → Smalls p l → t < n → Calls Try.prog 46 #[.agg #[.slice a1 n c1, .slice a2 p.af.length c2], v3, .int .i64 t] wx fun e w' => e = .returned (.tuple #[.int .i64 (fromV p l t), .bool (p.pre l t)]) ∧ Below wx.heap.size wx w') := by
    intro l t wx v3 hbx hi hs ht
    rw [hn.out] at ht ⊢
    exact impl_from p _ _ v3 l t wx ((H1.out.ext E).ext hbx) ((H2.out.ext E).ext hbx) hi Hok.out hs ht
  have hbusy : Hid (∀ l (T : Int) wx v3, Below w1.heap.size w1 wx → Ints wx 0 v3 l → Smalls p l → Calls Try.prog 38 #[.agg #[.slice a1 n c1, .slice a2 p.af.length c2], v3, .int .i64 T] wx fun e w' => e = .returned (.int .i64 (busyTo (lF l) p.L T n)) ∧ Below wx.heap.size wx w') := by
    intro l T wx v3 hbx hi hs
    rw [hn.out]
    exact impl_busy p _ _ v3 l T wx ((H1.out.ext E).ext hbx) ((H2.out.ext E).ext hbx) hi Hok.out hs.1 hs.2
  have R : Hid (Ints w2 w1.heap.size (.slice an n cn) (p.gTo h o 0)) := by rw [show p.gTo h o 0 = List.replicate n (-1) by rw [hn.out]; rfl]; exact Lib.hid hR
  have hup : Hid (∀ T : Nat, UpTo p T (p.gTo h o T)) := Lib.hid (fun T => gTo_up Ho.out T)
  have hround : Hid (∀ (T k : Nat), k ≤ n → UpTo p T (p.gIn h o T (p.gTo h o T) k)) := Lib.hid (fun T k hk => (gTo_up Ho.out T).round Ho.out (by omega) k (by rw [hn3'.out]; exact hk))
  clear hR rc0 rz0 rl0
  go_wp2_with fail
  go_loopg [9] 200 (fun m ss wr => ∃ T : Nat, T ≤ 120 ∧ m = 200 - T ∧ ss = .int .i64 T ∧ Hid (Ints wr w1.heap.size (.slice an n cn) (p.gTo h o T)) ∧ Below w1.heap.size w1 wr)
  case atStart => exact ⟨0, by omega, by omega, rfl, R, hb⟩
  case round =>
    clear R hb
    obtain ⟨T, hT, hgk, rfl, R, hb⟩ := hrel
    have HT := Lib.hid hgk
    clear hgk
    go_wp2_with fail
    have hgl : Hid ((p.gTo h o T).length = n) := by rw [hn.out]; exact Lib.hid (gTo_len p h o T)
    refine (slices_Contains _ (p.gTo h o T) (-1) _ (R.out.base (Nat.zero_le _))).mono ?_
    rintro e w3 ⟨rfl, rfl⟩
    have hmiss := hasN_miss hgl.out
    cases hc : hasN (p.gTo h o T) (-1)
    · have hend : Hid (p.greedyBy h o = p.gTo h o T) := Lib.hid (greedy_end Hf.out (by omega) (fun j hj => hmiss.2 hc j (by rw [hn.out]; exact hj)))
      clear hc hmiss
      go_wp2_with fail
      go_ret2
      exact ⟨_, by rw [Hf.out]; rfl, by rw [hend.out]; exact R.out.base (by omega), ext_trans E hb⟩
    have hT2 : T ≤ 119 := by
      obtain ⟨m, h1, h2⟩ := hmiss.1 hc
      exact greedy_bound Hf.out ⟨m, by rw [← hn.out]; exact h1, h2⟩
    clear hc hmiss
    go_wp2_with fail
    go_loopg [27] n (fun m kk wx => ∃ k : Nat, k ≤ n ∧ m = n - k ∧ kk = .int .i64 k ∧ Hid (Ints wx w1.heap.size (.slice an n cn) (p.gIn h o T (p.gTo h o T) k)) ∧ Below w1.heap.size w1 wx)
    case atStart => exact ⟨0, by omega, by omega, rfl, R, hb⟩
    case round =>
      clear R hb
      rename World => wx
      obtain ⟨k, hk, hgk, rfl, R, hb⟩ := hrel
      have Hk := Lib.hid hgk
      clear hgk
      by_cases hlk : k < n
      · obtain ⟨L, HL⟩ : ∃ L, Hid (L = p.gIn h o T (p.gTo h o T) k) := ⟨_, rfl⟩
        have hsm : Hid (Smalls p L) := by rw [HL.out]; exact Lib.hid ((hround.out T k hk).smalls (by omega))
        have hLl : Hid (L.length = n) := by rw [hn.out]; exact Lib.hid hsm.out.1
        rw [← HL.out] at R
        obtain ⟨t, ht⟩ : ∃ t, Hid (t = oN o k) := ⟨_, rfl⟩
        have hko := hin.out.2.2 k (by rw [← hn.out]; exact hlk)
        rw [← ht.out, ← hn.out] at hko
        have htn := hko.2
        have E1 := ext_trans E hb
        obtain ⟨g3, ha3, _, hg3, _, cx⟩ := (H3.out.ext E1).at_ (j := k) (by rw [hn3'.out]; exact hlk)
        subst ha3
        rw [hko.1] at cx
        have A1 := A0.ext hb
        clear hko
        have hnx : Hid (p.gIn h o T (p.gTo h o T) (k+1) = if p.gmay L h t T then L.set t T else L) := by rw [HL.out, ht.out]; exact Lib.hid rfl
        have hgm := Lib.hid (gmay_eq (p := p) (l := L) (h := h) (t := t) (T := (T : Int)) (by omega))
        obtain ⟨rc0, rz0⟩ := (A1).rules; have rl0 := (A1).lt
        go_wp2_with fail
        refine (hfrom.out L t _ _ hb (R.out.base (Nat.zero_le _)) hsm.out htn).mono ?_
        rintro e w4 ⟨rfl, hb3⟩
        have hb := ext_trans hb hb3
        have R := Lib.hid (R.out.ext hb3)
        have A2 := A1.ext hb3
        clear rc0 rz0 rl0 hb3 A1 E1 cx hg3
        obtain ⟨gr, har, hgrb, hgr, hfz, cr⟩ := R.out.at_ (j := t) (by rw [hLl.out]; exact htn)
        subst har
        obtain ⟨x, Hx⟩ : ∃ x, Hid (x = lF L t) := ⟨_, rfl⟩
        rw [show L.getD t 0 = x from Hx.out.symm] at cr
        obtain ⟨low, Hlow⟩ : ∃ low, Hid (low = fromV p L t) := ⟨_, rfl⟩
        rw [← Hlow.out]
        obtain ⟨rc0, rz0⟩ := (A2).rules; have rl0 := (A2).lt
        by_cases hx1 : x = -1
        · have hxe : (x == -1) = true := by simp [hx1]
          have hx2 : decide (lF L t = -1) = true := decide_eq_true (by rw [← Hx.out]; exact hx1)
          clear hx1
          cases hpre : p.pre L t
          · have Hm : Hid (p.gIn h o T (p.gTo h o T) (k+1) = L) := by rw [hnx.out, hgm.out, hpre, Bool.false_and, Bool.and_false]; exact Lib.hid rfl
            clear hpre
            go_wp2_with fail
            go_roundg (n - (k+1))
            case rel => exact ⟨k+1, by omega, rfl, by go_num, by rw [Hm.out]; exact R, hb⟩
            case measure => have := Hk.out; omega
          · by_cases hlo : low ≤ (T : Int)
            · have hlo2 : decide (low ≤ (T : Int)) = true := decide_eq_true hlo
              have hnx2 : Hid (p.gIn h o T (p.gTo h o T) (k+1) = if decide (busyTo (lF L) p.L T n < h) then L.set t T else L) := by
                rw [hnx.out, hgm.out, hpre, hx2, ← Hlow.out, hlo2, Bool.true_and, Bool.true_and, Bool.true_and, hn.out]; exact Lib.hid rfl
              clear hlo2 hpre hx2
              go_wp2_with fail
              refine (hbusy.out L T _ _ hb (R.out.base (Nat.zero_le _)) hsm.out).mono ?_
              rintro e w5 ⟨rfl, hb5⟩
              have hb := ext_trans hb hb5
              have R := Lib.hid (R.out.ext hb5)
              clear rc0 rz0 rl0 hb5 A2
              obtain ⟨b, Hb⟩ : ∃ b, Hid (b = busyTo (lF L) p.L T n) := ⟨_, rfl⟩
              rw [← Hb.out] at hnx2 ⊢
              obtain ⟨_, hae, hgrb, hgr, hfz, cr⟩ := R.out.at_ (j := t) (by rw [hLl.out]; exact htn)
              cases hae
              by_cases hbh : b < h
              · have Hm : Hid (p.gIn h o T (p.gTo h o T) (k+1) = L.set t T) := by rw [hnx2.out, if_pos (decide_eq_true hbh)]; exact Lib.hid rfl
                have R := Lib.hid (R.out.set t T)
                go_wp2_with fail
                go_roundg (n - (k+1))
                case rel => exact ⟨k+1, by omega, rfl, by go_num, by rw [Hm.out]; exact R, ext_set hb (by dsimp only; omega) _⟩
                case measure => have := Hk.out; omega
              · have Hm : Hid (p.gIn h o T (p.gTo h o T) (k+1) = L) := by rw [hnx2.out, decide_eq_false hbh]; exact Lib.hid rfl
                go_wp2_with fail
                go_roundg (n - (k+1))
                case rel => exact ⟨k+1, by omega, rfl, by go_num, by rw [Hm.out]; exact R, hb⟩
                case measure => have := Hk.out; omega
            · have Hm : Hid (p.gIn h o T (p.gTo h o T) (k+1) = L) := by rw [hnx.out, hgm.out, ← Hlow.out, decide_eq_false hlo, Bool.false_and, Bool.and_false, Bool.and_false]; exact Lib.hid rfl
              clear hpre hx2
              go_wp2_with fail
              go_roundg (n - (k+1))
              case rel => exact ⟨k+1, by omega, rfl, by go_num, by rw [Hm.out]; exact R, hb⟩
              case measure => have := Hk.out; omega
        · have hxe : (x == -1) = false := by simp [hx1]
          have Hm : Hid (p.gIn h o T (p.gTo h o T) (k+1) = L) := by rw [hnx.out, hgm.out, decide_eq_false (by rw [← Hx.out]; exact hx1), Bool.false_and]; exact Lib.hid rfl
          clear hx1
          go_wp2_with fail
          go_roundg (n - (k+1))
          case rel => exact ⟨k+1, by omega, rfl, by go_num, by rw [Hm.out]; exact R, hb⟩
          case measure => have := Hk.out; omega
      · have hkn : Hid (p.gTo h o (T+1) = p.gIn h o T (p.gTo h o T) k) := by
          rw [show k = o.length by rw [hn3'.out]; omega]; exact Lib.hid rfl
        go_wp2_with fail
        go_roundg (200 - (T+1))
        case rel => exact ⟨T+1, by omega, rfl, by go_num, by rw [hkn.out]; exact R, hb⟩
        case measure => have := HT.out; omega
end Go.Proofs.Ytdfcjhcnojgkiaa
