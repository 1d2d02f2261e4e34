/- The walks of ImpliesOk and AlikeOk, of impl and of spec. No condition but that the bounds can be read. -/
import Derived.Test.YtpccfkbpnfbdaaaClosed
import Derived.Test.YtpccfkbpnfbdaaaFitsS
namespace Go.Proofs.Ytpccfkbpnfbdaaa
open Go.RowKit
set_option linter.unusedVariables false
set_option linter.unusedSimpArgs false
def leB (D T : Tbl) (n : Nat) : Bool := (List.range n).all fun i => (List.range n).all fun j => decide (D i j ≤ T i j)
theorem leB_iff {D T : Tbl} {n : Nat} : leB D T n = true ↔ ∀ i, i < n → ∀ j, j < n → D i j ≤ T i j := by simp [leB, List.all_eq_true]
theorem leB_not {D T : Tbl} {n i j : Nat} (hi : i < n) (hj : j < n) (h : T i j < D i j) : leB D T n = false := by
  cases hb : leB D T n
  · rfl
  · have := leB_iff.1 hb i hi j hj; omega
def Pl.implies (p q : Pl) : Bool := (p.ok && (q.ok && decide (p.pts = q.pts))) && (!p.fits || leB p.clo q.tab p.n)
def Pl.alike (p q : Pl) : Bool := p.implies q && q.implies p
theorem rows_next {D T : Tbl} {i n : Nat} (h : ∀ a, a < i → ∀ b, b < n → D a b ≤ T a b) (h2 : ∀ b, b < n → D i b ≤ T i b) : ∀ a, a < i + 1 → ∀ b, b < n → D a b ≤ T a b := fun a ha b hb => by
  by_cases e : a = i
  · subst e; exact h2 b hb
  · exact h a (by omega) b hb
theorem cols_next {D T : Tbl} {i j : Nat} (h : ∀ b, b < j → D i b ≤ T i b) (h2 : D i j ≤ T i j) : ∀ b, b < j + 1 → D i b ≤ T i b := fun b hb => by
  by_cases e : b = j
  · subst e; exact h2
  · exact h b (by omega)
set_option maxRecDepth 100000 in
set_option maxHeartbeats 8000000 in
theorem impl_ImpliesOk (p q : Pl) (vp vq : Value) (w : World) (hp : Bds w 0 vp p.bs) (hq : Bds w 0 vq q.bs) :
    Calls Try.prog 19 #[.agg #[.int .i64 p.pts, vp], .agg #[.int .i64 q.pts, vq]] w fun e w' => e = .returned (.bool (p.implies q)) ∧ Below w.heap.size w w' := by
  have HP := Lib.hid hp; have HQ := Lib.hid hq
  obtain ⟨a, c, rfl, hn, hc, -⟩ := hp.open
  obtain ⟨a', c', rfl, hn', hc', -⟩ := hq.open
  clear hp hq
  go_enter Try.func19, Try.ntmps19
  go_wp2_with fail
  obtain ⟨W, hW, A0, B0, hs, E⟩ := two_boxes w #[.int .i64 p.pts, .slice a p.bs.length c] #[.int .i64 q.pts, .slice a' q.bs.length c'] 29 29
  rw [← hW.out]
  refine (impl_PlanOk p _ _ (HP.out.ext E)).mono ?_
  rintro e w1 ⟨rfl, hb1⟩
  have A0 := A0.ext hb1; have B0 := B0.ext hb1
  have E := ext_trans E hb1
  obtain ⟨rc0, rz0⟩ := (A0).rules; have rl0 := (A0).lt
  obtain ⟨rc1, rz1⟩ := (B0).rules; have rl1 := (B0).lt
  cases hok : p.ok
  · have Hf : Hid (p.implies q = false) := by simp [Pl.implies, hok]; exact Lib.hid trivial
    clear hok
    go_wp2_with fail
    go_ret
    exact ⟨by rw [Hf.out]; rfl, E⟩
  have Hok := Lib.hid hok
  clear hok
  go_wp2_with fail
  refine (impl_PlanOk q _ _ (HQ.out.ext E)).mono ?_
  rintro e w2 ⟨rfl, hb2⟩
  have A0 := A0.ext hb2; have B0 := B0.ext hb2
  have E := ext_trans E hb2
  clear rc0 rz0 rl0 rc1 rz1 rl1 hb1 hb2
  obtain ⟨rc0, rz0⟩ := (A0).rules; have rl0 := (A0).lt
  obtain ⟨rc1, rz1⟩ := (B0).rules; have rl1 := (B0).lt
  cases hoq : q.ok
  · have Hf : Hid (p.implies q = false) := by simp [Pl.implies, hoq]; exact Lib.hid trivial
    clear hoq
    go_wp2_with fail
    go_ret
    exact ⟨by rw [Hf.out]; rfl, E⟩
  have Hoq := Lib.hid hoq
  clear hoq
  by_cases hpt : p.pts = q.pts
  · have hne : (p.pts != q.pts) = false := by simp [hpt]
    have Hpt := Lib.hid hpt
    have hqn : Hid (q.n = p.n) := by unfold Pl.n; rw [hpt]; exact Lib.hid rfl
    clear hpt
    obtain ⟨q1, q2, q3, q4, q5⟩ := plok_in Hoq.out
    have Q1 := Lib.hid q1; have Q5 := Lib.hid q5
    obtain ⟨n, hnn⟩ : ∃ n, Hid (n = p.n) := ⟨_, rfl⟩
    have Q1 : Hid (q.pts = (n : Int)) := by rw [hnn.out, ← hqn.out]; exact Q1
    have Q5 : Hid (BdsIn n (-2000) 2000 q.bs) := by rw [hnn.out, ← hqn.out]; exact Lib.hid (Q5.out.wide (by decide) (by decide))
    have hn6 : n ≤ 6 := by rw [hnn.out, ← hqn.out]; exact q3
    have Hpn : Hid (p.pts = (n : Int)) := by rw [Hpt.out]; exact Q1
    clear q1 q2 q3 q5
    go_wp2_with fail
    refine (impl_closed p _ _ (HP.out.ext E)).mono ?_
    rintro e w3 ⟨vt, ht, rfl, hG, hb3⟩
    have A0 := A0.ext hb3; have B0 := B0.ext hb3
    have E := ext_trans E hb3
    have HG := Lib.hid hG
    clear rc0 rz0 rl0 rc1 rz1 rl1 hb3 hG
    obtain ⟨rc0, rz0⟩ := (A0).rules; have rl0 := (A0).lt
    obtain ⟨rc1, rz1⟩ := (B0).rules; have rl1 := (B0).lt
    cases hf : p.fits
    · have Hf : Hid (p.implies q = true) := by simp [Pl.implies, hf, Hok.out, Hoq.out, Hpt.out]; exact Lib.hid trivial
      clear hf
      go_wp2_with fail
      go_ret
      exact ⟨by rw [Hf.out]; rfl, E⟩
    obtain ⟨D, hD⟩ : ∃ D, Hid (D = p.clo) := ⟨_, rfl⟩
    have G : Hid (TabG w3 0 n n vt ht D) := by rw [hnn.out, hD.out]; exact Lib.hid ((HG.out hf).base (Nat.zero_le _))
    have Hf : Hid (p.implies q = leB D (tab0 q.bs) n) := by
      simp only [Pl.implies, hf, Hok.out, Hoq.out, Hpt.out, decide_true, Bool.and_true, Bool.true_and, Bool.not_true, Bool.false_or]
      rw [hD.out, hnn.out]; exact Lib.hid rfl
    clear hf HG
    obtain ⟨at_, ct, rfl, hct, hct2⟩ := G.out.open
    rw [Q1.out] at rc1
    go_wp2_with fail
    refine (impl_start n _ q.bs _ (HQ.out.ext E) hn6 Q5.out (by omega)).mono ?_
    rintro e w4 ⟨O, b, rfl, hO, hP, hb4⟩
    have E := ext_trans E hb4
    have G := Lib.hid (G.out.ext hb4)
    have S := Lib.hid hP.asG
    clear rc0 rz0 rl0 rc1 rz1 rl1 hb4 hP A0 B0
    obtain ⟨T, hT⟩ : ∃ T, Hid (T = tab0 q.bs) := ⟨_, rfl⟩
    rw [← hT.out] at S Hf
    go_wp2_with fail
    go_loopg [39] n (fun m ii wr => ∃ i : Nat, i ≤ n ∧ m = n - i ∧ ii = .int .i64 i ∧ wr = w4 ∧ Hid (∀ a, a < i → ∀ b, b < n → D a b ≤ T a b))
    case atStart => exact ⟨0, by omega, by omega, rfl, rfl, fun a ha => by omega⟩
    case round =>
      obtain ⟨i, hi, hgk, rfl, hwe, Hall⟩ := hrel
      subst hwe
      have Hi := Lib.hid hgk
      clear hgk
      by_cases hli : i < n
      · obtain ⟨gd, ad, cd, hag, _, hgd, _, hOd, hcd, hcd2, hrd⟩ := G.out.head hli
        subst hag
        obtain ⟨gs, as_, cs, hag, _, hgs, _, hOs, hcs, hcs2, hrs⟩ := S.out.head hli
        cases hag
        have RD := Lib.hid hrd; have RS := Lib.hid hrs
        clear hrd hrs
        go_wp2_with fail
        rename World => wr
        go_loopg [46] n (fun m jj wx => ∃ j : Nat, j ≤ n ∧ m = n - j ∧ jj = .int .i64 j ∧ wx = wr ∧ Hid (∀ b, b < j → D i b ≤ T i b))
        case atStart => exact ⟨0, by omega, by omega, rfl, rfl, fun a ha => by omega⟩
        case round =>
          obtain ⟨j, hj, hgk, rfl, hwe, Hrow⟩ := hrel
          subst hwe
          have Hj := Lib.hid hgk
          clear hgk
          by_cases hlj : j < n
          · have hl1 : (rowOf n (D i)).length = n := rowOf_length _ _
            have hl2 : (rowOf n (T i)).length = n := rowOf_length _ _
            obtain ⟨g1, ha1, _, hg1, _, k1⟩ := RD.out.at_ (j := j) (by omega)
            subst ha1
            obtain ⟨g2, ha2, _, hg2, _, k2⟩ := RS.out.at_ (j := j) (by omega)
            subst ha2
            rw [rowOf_getD _ _ _ hlj] at k1 k2
            obtain ⟨x, Hx⟩ : ∃ x, Hid (x = D i j) := ⟨_, rfl⟩
            obtain ⟨y, Hy⟩ : ∃ x, Hid (x = T i j) := ⟨_, rfl⟩
            rw [← Hx.out] at k1
            rw [← Hy.out] at k2
            clear hl1 hl2
            by_cases hxy : y < x
            · go_wp2_with fail
              go_ret
              refine ⟨?_, E⟩
              rw [Hf.out, leB_not hli hlj (by rw [← Hx.out, ← Hy.out]; exact hxy)]; rfl
            · go_wp2_with fail
              go_roundg (n - (j+1))
              case rel => exact ⟨j+1, by omega, rfl, by go_num, rfl, Lib.hid (cols_next Hrow.out (by rw [← Hx.out, ← Hy.out]; omega))⟩
              case measure => have := Hj.out; omega
          · have hjn : n = j := by omega
            subst hjn
            go_wp2_with fail
            go_roundg (n - (i+1))
            case rel => exact ⟨i+1, by omega, rfl, by go_num, rfl, Lib.hid (rows_next Hall.out Hrow.out)⟩
            case measure => have := Hi.out; omega
      · have hin : n = i := by omega
        subst hin
        go_wp2_with fail
        go_ret
        refine ⟨?_, E⟩
        rw [Hf.out, leB_iff.2 Hall.out]; rfl
  · have hne : (p.pts != q.pts) = true := by simp [hpt]
    have Hf : Hid (p.implies q = false) := by simp [Pl.implies, hpt]; exact Lib.hid trivial
    clear hpt
    go_wp2_with fail
    go_ret
    exact ⟨by rw [Hf.out]; rfl, E⟩
set_option maxHeartbeats 2000000 in
theorem impl_AlikeOk (p q : Pl) (vp vq : Value) (w : World) (hp : Bds w 0 vp p.bs) (hq : Bds w 0 vq q.bs) :
    Calls Try.prog 31 #[.agg #[.int .i64 p.pts, vp], .agg #[.int .i64 q.pts, vq]] w fun e w' => e = .returned (.bool (p.alike q)) ∧ Below w.heap.size w w' := by
  have HP := Lib.hid hp; have HQ := Lib.hid hq
  obtain ⟨a, c, rfl, hn, hc, -⟩ := hp.open
  obtain ⟨a', c', rfl, hn', hc', -⟩ := hq.open
  clear hp hq
  go_enter Try.func31, Try.ntmps31
  go_wp2_with fail
  obtain ⟨W, hW, A0, B0, hs, E⟩ := two_boxes w #[.int .i64 p.pts, .slice a p.bs.length c] #[.int .i64 q.pts, .slice a' q.bs.length c'] 29 29
  rw [← hW.out]
  refine (impl_ImpliesOk p q _ _ _ (HP.out.ext E) (HQ.out.ext E)).mono ?_
  rintro e w1 ⟨rfl, hb1⟩
  have A0 := A0.ext hb1; have B0 := B0.ext hb1
  have E := ext_trans E hb1
  obtain ⟨rc0, rz0⟩ := (A0).rules; have rl0 := (A0).lt
  obtain ⟨rc1, rz1⟩ := (B0).rules; have rl1 := (B0).lt
  cases h1 : p.implies q
  · have Hf : Hid (p.alike q = false) := by simp [Pl.alike, h1]; exact Lib.hid trivial
    clear h1
    go_wp2_with fail
    go_ret
    exact ⟨by rw [Hf.out]; rfl, E⟩
  have Hf : Hid (p.alike q = q.implies p) := by simp [Pl.alike, h1]; exact Lib.hid trivial
  clear h1
  go_wp2_with fail
  refine (impl_ImpliesOk q p _ _ _ (HQ.out.ext E) (HP.out.ext E)).mono ?_
  rintro e w2 ⟨rfl, hb2⟩
  go_wp2_with fail
  go_ret
  exact ⟨by rw [Hf.out]; rfl, ext_trans E hb2⟩
end Go.Proofs.Ytpccfkbpnfbdaaa
