/- The walks of DealOk of both. Conditions: at most two million bounds and promises. -/
import Derived.Test.YtlcmhcfnmohgmaaProm
import Derived.Test.YtlcmhcfnmohgmaaPlanOk
import Derived.BigQuiet
import Derived.Deep.DeepCutAuto
namespace Go.Proofs.Ytlcmhcfnmohgmaa
open Go.RowKit
set_option linter.unusedVariables false
set_option linter.unusedSimpArgs false
theorem ext_drewND (w : World) (n : Nat) : Below w.heap.size w (w.drewN n) := ⟨rfl, rfl, rfl, Nat.le_refl _, fun _ _ => rfl⟩
def prOk (pts : Int) (x : Pr) : Bool := inB x.f 0 (pts-1) && (inB x.t 0 (pts-1) && (!decide (x.f = x.t) && (inB x.hi 0 12 && inB x.lo 0 x.hi)))
def prFar (l : List Pr) (i k : Nat) : Bool := decide (i = k) || !(decide ((l.getD i Pr.z).t = (l.getD k Pr.z).f) || decide ((l.getD i Pr.z).t = (l.getD k Pr.z).t))
def dealOk (p : Pl) (l : List Pr) : Bool := p.ok && (decide (p.bs.length ≤ 12) && (decide (l.length ≤ 2) && (List.range l.length).all fun i => prOk p.pts (l.getD i Pr.z) && (List.range l.length).all (prFar l i)))
theorem deal_badP (p : Pl) (l : List Pr) (i : Nat) (hi : i < l.length) (h : prOk p.pts (l.getD i Pr.z) = false) : dealOk p l = false := by
  have : ((List.range l.length).all fun i => prOk p.pts (l.getD i Pr.z) && (List.range l.length).all (prFar l i)) = false := by
    rw [List.all_eq_false]
    exact ⟨i, by simpa using hi, by rw [h]; simp⟩
  unfold dealOk
  rw [this]; simp
theorem deal_badF (p : Pl) (l : List Pr) (i k : Nat) (hi : i < l.length) (hk : k < l.length) (h : prFar l i k = false) : dealOk p l = false := by
  have h2 : (List.range l.length).all (prFar l i) = false := by
    rw [List.all_eq_false]
    exact ⟨k, by simpa using hk, by rw [h]; simp⟩
  have : ((List.range l.length).all fun i => prOk p.pts (l.getD i Pr.z) && (List.range l.length).all (prFar l i)) = false := by
    rw [List.all_eq_false]
    exact ⟨i, by simpa using hi, by rw [h2]; simp⟩
  unfold dealOk
  rw [this]; simp
theorem deal_good (p : Pl) (l : List Pr) (h1 : p.ok = true) (h2 : p.bs.length ≤ 12) (h3 : l.length ≤ 2) (h : ∀ i, i < l.length → prOk p.pts (l.getD i Pr.z) = true ∧ ∀ k, k < l.length → prFar l i k = true) : dealOk p l = true := by
  have : ((List.range l.length).all fun i => prOk p.pts (l.getD i Pr.z) && (List.range l.length).all (prFar l i)) = true := by
    rw [List.all_eq_true]
    intro i hi
    rw [List.mem_range] at hi
    rw [(h i hi).1, Bool.true_and, List.all_eq_true]
    intro k hk
    rw [List.mem_range] at hk
    exact (h i hi).2 k hk
  unfold dealOk
  rw [this, h1, decide_eq_true h2, decide_eq_true h3]; rfl
theorem prOk_1 {pts : Int} {x : Pr} (h : inB x.f 0 (pts-1) = false) : prOk pts x = false := by simp [prOk, h]
theorem prOk_2 {pts : Int} {x : Pr} (h : inB x.t 0 (pts-1) = false) : prOk pts x = false := by simp [prOk, h]
theorem prOk_3 {pts : Int} {x : Pr} (h : x.f = x.t) : prOk pts x = false := by simp [prOk, h]
theorem prOk_4 {pts : Int} {x : Pr} (h : inB x.hi 0 12 = false) : prOk pts x = false := by simp [prOk, h]
theorem prOk_5 {pts : Int} {x : Pr} (h : inB x.lo 0 x.hi = false) : prOk pts x = false := by simp [prOk, h]
theorem prOk_6 {pts : Int} {x : Pr} (h : 12 < x.hi) : prOk pts x = false := by
  have : inB x.hi 0 12 = false := by simp [inB]; omega
  exact prOk_4 this
theorem prOk_y {pts : Int} {x : Pr} (h1 : inB x.f 0 (pts-1) = true) (h2 : inB x.t 0 (pts-1) = true) (h3 : ¬ x.f = x.t) (h4 : inB x.hi 0 12 = true) (h5 : inB x.lo 0 x.hi = true) : prOk pts x = true := by simp [prOk, *]
theorem prFar_self (l : List Pr) (i : Nat) : prFar l i i = true := by simp [prFar]
theorem prFar_f {l : List Pr} {i k : Nat} {x y : Pr} (hx : Hid (x = l.getD i Pr.z)) (hy : Hid (y = l.getD k Pr.z)) (hik : ¬ i = k) (h : x.t = y.f) : prFar l i k = false := by
  unfold prFar; rw [← hx.out, ← hy.out, decide_eq_false hik, decide_eq_true h]; rfl
theorem prFar_t {l : List Pr} {i k : Nat} {x y : Pr} (hx : Hid (x = l.getD i Pr.z)) (hy : Hid (y = l.getD k Pr.z)) (hik : ¬ i = k) (h : x.t = y.t) : prFar l i k = false := by
  unfold prFar; rw [← hx.out, ← hy.out, decide_eq_false hik, decide_eq_true h]; simp
theorem prFar_y {l : List Pr} {i k : Nat} {x y : Pr} (hx : Hid (x = l.getD i Pr.z)) (hy : Hid (y = l.getD k Pr.z)) (h : ¬ x.t = y.f) (h' : ¬ x.t = y.t) : prFar l i k = true := by
  unfold prFar; rw [← hx.out, ← hy.out, decide_eq_false h, decide_eq_false h']; simp
set_option maxRecDepth 100000 in
set_option maxHeartbeats 8000000 in
theorem impl_DealOk (p : Pl) (b v : Value) (l : List Pr) (w : World) (hb : Bds w 0 b p.bs) (hv : Prs w 0 v l) (hlb : p.bs.length ≤ 2000000) (hll : l.length ≤ 2000000) :
    Calls Try.prog 68 #[.agg #[.int .i64 p.pts, b, v]] w fun e w' => e = .returned (.bool (dealOk p l)) ∧ Below w.heap.size w w' := by
  have Hv := Lib.hid hv; have Hb := Lib.hid hb
  obtain ⟨a, cap, rfl, hn, hc, -⟩ := hv.open
  obtain ⟨ab, cb, rfl, -⟩ := hb.open
  clear hv hb
  go_enter Try.func68, Try.ntmps68
  go_wp2_with fail
  obtain ⟨W, hW, A0, hs, E⟩ := one_box w #[.int .i64 p.pts, .slice ab p.bs.length cb, .slice a l.length cap] 44
  rw [← hW.out]
  obtain ⟨rc0, rz0⟩ := (A0).rules; have rl0 := (A0).lt
  refine (impl_PlanOk p _ _ (Hb.out.ext E)).mono ?_
  rintro e w1 ⟨rfl, hb1⟩
  have A0 := A0.ext hb1
  have E := ext_trans E hb1
  clear rc0 rz0 rl0 hb1
  obtain ⟨rc0, rz0⟩ := (A0).rules; have rl0 := (A0).lt
  cases hok : p.ok
  · go_wp2_with fail
    go_ret
    exact ⟨by simp [dealOk, hok], E⟩
  have hpts : 1 ≤ p.pts ∧ p.pts ≤ 6 := by
    simp only [Pl.ok, Bool.and_eq_true, inB_iff] at hok
    exact hok.1
  by_cases h12 : p.bs.length ≤ 12
  case neg =>
    have h12' : (12 : Int) < (p.bs.length : Int) := by omega
    go_wp2_with fail
    go_ret
    exact ⟨by simp [dealOk, hok, h12], E⟩
  by_cases h2 : l.length ≤ 2
  case neg =>
    have h12' : ¬ (12 : Int) < (p.bs.length : Int) := by omega
    have h2' : (2 : Int) < (l.length : Int) := by omega
    go_wp2_with fail
    go_ret
    exact ⟨by simp [dealOk, hok, h12, h2], E⟩
  have h12' : ¬ (12 : Int) < (p.bs.length : Int) := by omega
  have h2' : ¬ (2 : Int) < (l.length : Int) := by omega
  have Hok := Lib.hid hok
  clear hok
  go_wp2_with fail
  clear rc0 rz0 rl0
  go_loopg [27] l.length (fun m ii wr => ∃ j : Nat, j ≤ l.length ∧ m = l.length - j ∧ ii = .int .i64 j ∧ Hid (∀ c, c < j → prOk p.pts (l.getD c Pr.z) = true ∧ ∀ k, k < l.length → prFar l c k = true) ∧ Below w1.heap.size w1 wr)
  case atStart => exact ⟨0, by omega, by omega, rfl, fun c hc => by omega, ext_refl _⟩
  case round =>
    obtain ⟨j, hj, hgk, rfl, Hall, Er⟩ := hrel
    have Hkj := Lib.hid hgk
    clear hgk
    have A0 := A0.ext Er
    have E := ext_trans E Er
    obtain ⟨rc0, rz0⟩ := (A0).rules; have rl0 := (A0).lt
    by_cases hlt : j < l.length
    · obtain ⟨g, rfl, -, gl, gf, c0, c1, c2, c3⟩ := (Hv.out.ext E).at_ (j := j) hlt
      obtain ⟨x, hx⟩ : ∃ x : Pr, Hid (x = l.getD j Pr.z) := ⟨_, rfl⟩
      rw [← hx.out] at c0 c1 c2 c3
      go_upto_region 6 with fail
      obtain ⟨w2, hw2, B0, hs2, E2⟩ := one_box wr #[.int .i64 x.f, .int .i64 x.t, .int .i64 x.lo, .int .i64 x.hi] 50
      rw [← hw2.out]
      have A0 := A0.ext E2
      have E := ext_trans E E2
      have Er := ext_trans Er E2
      clear rc0 rz0 rl0 c0 c1 c2 c3 gf
      obtain ⟨rc0, rz0⟩ := (A0).rules; have rl0 := (A0).lt
      obtain ⟨rc1, rz1⟩ := (B0).rules; have rl1 := (B0).lt
      go_wp2_with fail
      refine (impl_has _ _ _ _ (by omega) (by omega)).mono ?_
      rintro e w3 ⟨rfl, hb3⟩
      have A0 := A0.ext hb3
      have B0 := B0.ext hb3
      have E := ext_trans E hb3
      have Er := ext_trans Er hb3
      clear rc0 rz0 rl0 rc1 rz1 rl1 hb3
      obtain ⟨rc0, rz0⟩ := (A0).rules; have rl0 := (A0).lt
      obtain ⟨rc1, rz1⟩ := (B0).rules; have rl1 := (B0).lt
      cases h1 : inB x.f 0 (p.pts - 1)
      · have H1 := Lib.hid (prOk_1 h1)
        go_wp2_with fail
        go_ret
        exact ⟨by rw [deal_badP p l j hlt (by rw [← hx.out]; exact H1.out)]; rfl, E⟩
      have Hy1 := Lib.hid h1
      clear h1
      go_wp2_with fail
      refine (impl_has _ _ _ _ (by omega) (by omega)).mono ?_
      rintro e w4 ⟨rfl, hb4⟩
      have A0 := A0.ext hb4
      have B0 := B0.ext hb4
      have E := ext_trans E hb4
      have Er := ext_trans Er hb4
      clear rc0 rz0 rl0 rc1 rz1 rl1 hb4
      obtain ⟨rc0, rz0⟩ := (A0).rules; have rl0 := (A0).lt
      obtain ⟨rc1, rz1⟩ := (B0).rules; have rl1 := (B0).lt
      cases h1 : inB x.t 0 (p.pts - 1)
      · have H1 := Lib.hid (prOk_2 h1)
        go_wp2_with fail
        go_ret
        exact ⟨by rw [deal_badP p l j hlt (by rw [← hx.out]; exact H1.out)]; rfl, E⟩
      have Hy2 := Lib.hid h1
      clear h1
      by_cases h3 : x.f = x.t
      · have H1 := Lib.hid (prOk_3 (pts := p.pts) h3)
        have h3' : (x.f = x.t) = True := by simp [h3]
        clear h3
        go_wp2_with fail
        go_ret
        exact ⟨by rw [deal_badP p l j hlt (by rw [← hx.out]; exact H1.out)]; rfl, E⟩
      have h3b : (x.f == x.t) = false := by simp [h3]
      go_wp2_with fail
      refine (impl_in _ _ _ _).mono ?_
      rintro e w' ⟨rfl, rfl⟩
      cases h1 : inB x.hi 0 12
      · have H1 := Lib.hid (prOk_4 (pts := p.pts) h1)
        go_wp2_with fail
        go_ret
        exact ⟨by rw [deal_badP p l j hlt (by rw [← hx.out]; exact H1.out)]; rfl, E⟩
      have Hy4 := Lib.hid h1
      clear h1
      go_wp2_with fail
      refine (impl_in _ _ _ _).mono ?_
      rintro e w' ⟨rfl, rfl⟩
      cases h1 : inB x.lo 0 x.hi
      · have H1 := Lib.hid (prOk_5 (pts := p.pts) h1)
        go_wp2_with fail
        go_ret
        exact ⟨by rw [deal_badP p l j hlt (by rw [← hx.out]; exact H1.out)]; rfl, E⟩
      have hpr := Lib.hid (prOk_y Hy1.out Hy2.out h3 Hy4.out h1)
      clear h1 Hy1 Hy2 Hy4
      go_wp2_with fail
      clear h3 h3b
      go_loopg [70] l.length (fun m kk wy => ∃ k : Nat, k ≤ l.length ∧ m = l.length - k ∧ kk = .int .i64 k ∧ Hid (∀ c, c < k → prFar l j c = true) ∧ Below w4.heap.size w4 wy)
      case atStart => exact ⟨0, by omega, by omega, rfl, fun c hc => by omega, ext_refl _⟩
      case round =>
        rename World => wy
        obtain ⟨k, hk, hgk, rfl, Hfar, hbel⟩ := hrel
        have Hk := Lib.hid hgk
        clear hgk rc0 rz0 rl0 rc1 rz1 rl1
        have A0 := A0.ext hbel
        have B0 := B0.ext hbel
        have E := ext_trans E hbel
        have Er := ext_trans Er hbel
        obtain ⟨rc1, rz1⟩ := (B0).rules; have rl1 := (B0).lt
        by_cases hlk : k < l.length
        · obtain ⟨g', hg', -, gl', gf', k0, k1, k2, k3⟩ := (Hv.out.ext E).at_ (j := k) hlk
          cases hg'
          obtain ⟨y, hy⟩ : ∃ y : Pr, Hid (y = l.getD k Pr.z) := ⟨_, rfl⟩
          rw [← hy.out] at k0 k1 k2 k3
          go_upto_region 11 with fail
          obtain ⟨w6, hw6, C0, hs6, E6⟩ := one_box wy #[.int .i64 y.f, .int .i64 y.t, .int .i64 y.lo, .int .i64 y.hi] 50
          rw [← hw6.out]
          have B0 := B0.ext E6
          have E := ext_trans E E6
          have hbel := ext_trans hbel E6
          have Er := ext_trans Er E6
          clear rc1 rz1 rl1
          obtain ⟨rc1, rz1⟩ := (B0).rules; have rl1 := (B0).lt
          obtain ⟨rc2, rz2⟩ := (C0).rules; have rl2 := (C0).lt
          by_cases hjk : j = k
          · have Hjk := Lib.hid hjk
            have hjk' : ((j : Int) == (k : Int)) = true := by simp [hjk]
            have hjk2 : ((j : Int) != (k : Int)) = false := by simp [hjk]
            clear hjk
            go_wp2_with fail
            go_roundg (l.length - (k+1))
            case rel =>
              refine ⟨k+1, by omega, rfl, by go_num, fun c hc => ?_, hbel⟩
              by_cases hck : c = k
              · rw [hck, Hjk.out]; exact prFar_self l k
              · exact Hfar.out c (by omega)
            case measure => have := Hk.out; omega
          · have hjk' : ((j : Int) == (k : Int)) = false := by simp; omega
            have hjk2 : ((j : Int) != (k : Int)) = true := by simp; omega
            by_cases hf : x.t = y.f
            · have Hf := Lib.hid (prFar_f hx hy hjk hf)
              have hf' : (x.t == y.f) = true := by simp [hf]
              clear hf
              go_wp2_with fail
              go_ret
              exact ⟨by rw [deal_badF p l j k hlt hlk Hf.out]; rfl, E⟩
            · have hfb : (x.t == y.f) = false := by simp [hf]
              by_cases ht : x.t = y.t
              · have Hf := Lib.hid (prFar_t hx hy hjk ht)
                have ht' : (x.t == y.t) = true := by simp [ht]
                clear ht
                go_wp2_with fail
                go_ret
                exact ⟨by rw [deal_badF p l j k hlt hlk Hf.out]; rfl, E⟩
              · have htb : (x.t == y.t) = false := by simp [ht]
                go_wp2_with fail
                go_roundg (l.length - (k+1))
                case rel =>
                  refine ⟨k+1, by omega, rfl, by go_num, fun c hc => ?_, hbel⟩
                  by_cases hck : c = k
                  · rw [hck]; exact prFar_y hx hy hf ht
                  · exact Hfar.out c (by omega)
                case measure => have := Hk.out; omega
        · have Hfar' : Hid (∀ c, c < l.length → prFar l j c = true) := fun c hc => Hfar.out c (by omega)
          clear Hfar
          go_wp2_with fail
          go_roundg (l.length - (j+1))
          case rel =>
            refine ⟨j+1, by omega, rfl, by go_num, fun c hc => ?_, Er⟩
            by_cases hcj : c = j
            · rw [hcj, ← hx.out]; exact ⟨hpr.out, fun c hc => Hfar'.out c hc⟩
            · exact Hall.out c (by omega)
          case measure => have := Hkj.out; omega
    · have Hall' : Hid (∀ c, c < l.length → prOk p.pts (l.getD c Pr.z) = true ∧ ∀ k, k < l.length → prFar l c k = true) := fun c hc => Hall.out c (by omega)
      clear Hall
      go_wp2_with fail
      go_ret
      exact ⟨by rw [deal_good p l Hok.out h12 h2 Hall'.out]; rfl, E⟩
set_option maxRecDepth 100000 in
set_option maxHeartbeats 8000000 in
theorem spec_DealOk (p : Pl) (b v : Value) (l : List Pr) (w : World) (hb : Bds w 0 b p.bs) (hv : Prs w 0 v l) (hlb : p.bs.length ≤ 2000000) (hll : l.length ≤ 2000000) :
    Calls Try.prog 70 #[.agg #[.int .i64 p.pts, b, v]] w fun e w' => e = .returned (.bool (dealOk p l)) ∧ Below w.heap.size w w' := by
  have Hv := Lib.hid hv; have Hb := Lib.hid hb
  obtain ⟨a, cap, rfl, hn, hc, -⟩ := hv.open
  obtain ⟨ab, cb, rfl, -⟩ := hb.open
  clear hv hb
  go_enter Try.func70, Try.ntmps70
  go_wp2_with fail
  obtain ⟨W, hW, A0, hs, E⟩ := one_box w #[.int .i64 p.pts, .slice ab p.bs.length cb, .slice a l.length cap] 44
  rw [← hW.out]
  obtain ⟨rc0, rz0⟩ := (A0).rules; have rl0 := (A0).lt
  refine (spec_PlanOk p _ _ (Hb.out.ext E)).mono ?_
  rintro e w1 ⟨rfl, hb1⟩
  have A0 := A0.ext hb1
  have E := ext_trans E hb1
  clear rc0 rz0 rl0 hb1
  obtain ⟨rc0, rz0⟩ := (A0).rules; have rl0 := (A0).lt
  cases hok : p.ok
  · go_wp2_with fail
    go_ret
    exact ⟨by simp [dealOk, hok], E⟩
  have hpts : 1 ≤ p.pts ∧ p.pts ≤ 6 := by
    simp only [Pl.ok, Bool.and_eq_true, inB_iff] at hok
    exact hok.1
  by_cases h12 : p.bs.length ≤ 12
  case neg =>
    have h12' : (12 : Int) < (p.bs.length : Int) := by omega
    go_wp2_with fail
    go_ret
    exact ⟨by simp [dealOk, hok, h12], E⟩
  by_cases h2 : l.length ≤ 2
  case neg =>
    have h12' : ¬ (12 : Int) < (p.bs.length : Int) := by omega
    have h2' : (2 : Int) < (l.length : Int) := by omega
    go_wp2_with fail
    go_ret
    exact ⟨by simp [dealOk, hok, h12, h2], E⟩
  have h12' : ¬ (12 : Int) < (p.bs.length : Int) := by omega
  have h2' : ¬ (2 : Int) < (l.length : Int) := by omega
  have Hok := Lib.hid hok
  clear hok
  go_wp2_with fail
  clear rc0 rz0 rl0
  go_loopg [3] l.length (fun m ii wr => ∃ j : Nat, j ≤ l.length ∧ m = l.length - j ∧ ii = .int .i64 j ∧ Hid (∀ c, c < j → prOk p.pts (l.getD c Pr.z) = true ∧ ∀ k, k < l.length → prFar l c k = true) ∧ Below w1.heap.size w1 wr)
  case atStart => exact ⟨0, by omega, by omega, rfl, fun c hc => by omega, ext_refl _⟩
  case round =>
    obtain ⟨j, hj, hgk, rfl, Hall, Er⟩ := hrel
    have Hkj := Lib.hid hgk
    clear hgk
    have A0 := A0.ext Er
    have E := ext_trans E Er
    obtain ⟨rc0, rz0⟩ := (A0).rules; have rl0 := (A0).lt
    by_cases hlt : j < l.length
    · obtain ⟨g, rfl, -, gl, gf, c0, c1, c2, c3⟩ := (Hv.out.ext E).at_ (j := j) hlt
      obtain ⟨x, hx⟩ : ∃ x : Pr, Hid (x = l.getD j Pr.z) := ⟨_, rfl⟩
      rw [← hx.out] at c0 c1 c2 c3
      go_upto_region 7 with fail
      obtain ⟨w2, hw2, B0, hs2, E2⟩ := one_box wr #[.int .i64 x.f, .int .i64 x.t, .int .i64 x.lo, .int .i64 x.hi] 50
      rw [← hw2.out]
      have A0 := A0.ext E2
      have E := ext_trans E E2
      have Er := ext_trans Er E2
      clear rc0 rz0 rl0 c0 c1 c2 c3 gf
      obtain ⟨rc0, rz0⟩ := (A0).rules; have rl0 := (A0).lt
      obtain ⟨rc1, rz1⟩ := (B0).rules; have rl1 := (B0).lt
      go_wp2_with fail
      refine (spec_l1In _ _ _ _).mono ?_
      rintro e w' ⟨rfl, rfl⟩
      cases h1 : inB x.f 0 (p.pts - 1)
      · have H1 := Lib.hid (prOk_1 h1)
        go_wp2_with fail
        go_ret
        exact ⟨by rw [deal_badP p l j hlt (by rw [← hx.out]; exact H1.out)]; rfl, E⟩
      have Hy1 := Lib.hid h1
      clear h1
      go_wp2_with fail
      refine (spec_l1In _ _ _ _).mono ?_
      rintro e w' ⟨rfl, rfl⟩
      cases h1 : inB x.t 0 (p.pts - 1)
      · have H1 := Lib.hid (prOk_2 h1)
        go_wp2_with fail
        go_ret
        exact ⟨by rw [deal_badP p l j hlt (by rw [← hx.out]; exact H1.out)]; rfl, E⟩
      have Hy2 := Lib.hid h1
      clear h1
      by_cases h3 : x.f = x.t
      · have H1 := Lib.hid (prOk_3 (pts := p.pts) h3)
        have h3' : (x.f = x.t) = True := by simp [h3]
        clear h3
        go_wp2_with fail
        go_ret
        exact ⟨by rw [deal_badP p l j hlt (by rw [← hx.out]; exact H1.out)]; rfl, E⟩
      have h3b : (x.f == x.t) = false := by simp [h3]
      go_wp2_with fail
      refine (spec_l1In _ _ _ _).mono ?_
      rintro e w' ⟨rfl, rfl⟩
      cases h1 : inB x.lo 0 x.hi
      · have H1 := Lib.hid (prOk_5 (pts := p.pts) h1)
        go_wp2_with fail
        go_ret
        exact ⟨by rw [deal_badP p l j hlt (by rw [← hx.out]; exact H1.out)]; rfl, E⟩
      have Hy5 := Lib.hid h1
      clear h1
      by_cases h6 : 12 < x.hi
      · have H1 := Lib.hid (prOk_6 (pts := p.pts) h6)
        go_wp2_with fail
        go_ret
        exact ⟨by rw [deal_badP p l j hlt (by rw [← hx.out]; exact H1.out)]; rfl, E⟩
      have h6b : decide (12 < x.hi) = false := by simp; omega
      have hpr := Lib.hid (prOk_y Hy1.out Hy2.out h3 (by have := (inB_iff _ _ _).1 Hy5.out; rw [inB_iff]; omega) Hy5.out)
      clear Hy1 Hy2 Hy5
      go_wp2_with fail
      clear h3 h6 h3b h6b
      go_loopg [5] l.length (fun m kk wy => ∃ k : Nat, k ≤ l.length ∧ m = l.length - k ∧ kk = .int .i64 k ∧ Hid (∀ c, c < k → prFar l j c = true) ∧ Below w2.heap.size w2 wy)
      case atStart => exact ⟨0, by omega, by omega, rfl, fun c hc => by omega, ext_refl _⟩
      case round =>
        obtain ⟨k, hk, hgk, rfl, Hfar, hbel⟩ := hrel
        have Hk := Lib.hid hgk
        clear hgk rc0 rz0 rl0 rc1 rz1 rl1
        have A0 := A0.ext hbel
        have B0 := B0.ext hbel
        have E := ext_trans E hbel
        have Er := ext_trans Er hbel
        obtain ⟨rc0, rz0⟩ := (A0).rules; have rl0 := (A0).lt
        obtain ⟨rc1, rz1⟩ := (B0).rules; have rl1 := (B0).lt
        by_cases hlk : k < l.length
        · obtain ⟨g', hg', -, gl', gf', k0, k1, k2, k3⟩ := (Hv.out.ext E).at_ (j := k) hlk
          cases hg'
          obtain ⟨y, hy⟩ : ∃ y : Pr, Hid (y = l.getD k Pr.z) := ⟨_, rfl⟩
          rw [← hy.out] at k0 k1 k2 k3
          by_cases hjk : j = k
          · have Hjk := Lib.hid hjk
            have hd : ((k : Int) == (j : Int)) = true := by simp [hjk]
            have hd2 : ((k : Int) != (j : Int)) = false := by simp [hjk]
            clear hjk
            go_upto_region 12 with fail
            go_quiet (fail)
            go_wp2_with fail
            go_roundg (l.length - (k+1))
            case rel =>
              refine ⟨k+1, by omega, rfl, by go_num, fun c hc => ?_, ext_trans hbel (ext_drewND _ _)⟩
              by_cases hck : c = k
              · rw [hck, Hjk.out]; exact prFar_self l k
              · exact Hfar.out c (by omega)
            case measure => have := Hk.out; omega
          · have hd : ((k : Int) == (j : Int)) = false := by simp; omega
            have hd2 : ((k : Int) != (j : Int)) = true := by simp; omega
            by_cases ht : x.t = y.t
            · have Hf := Lib.hid (prFar_t hx hy hjk ht)
              have hdt : (y.t == x.t) = true := by simp [ht]
              clear ht
              go_upto_region 12 with fail
              go_quiet (fail)
              go_wp2_with fail
              go_ret
              exact ⟨by rw [deal_badF p l j k hlt hlk Hf.out]; rfl, ext_trans E (ext_drewND _ _)⟩
            · have hdt : (y.t == x.t) = false := by simp; omega
              by_cases hf : x.t = y.f
              · have Hf := Lib.hid (prFar_f hx hy hjk hf)
                have hdf : (y.f == x.t) = true := by simp [hf]
                clear hf
                go_upto_region 12 with fail
                go_quiet (fail)
                go_wp2_with fail
                go_ret
                exact ⟨by rw [deal_badF p l j k hlt hlk Hf.out]; rfl, ext_trans E (ext_drewND _ _)⟩
              · have hdf : (y.f == x.t) = false := by simp; omega
                go_upto_region 12 with fail
                go_quiet (fail)
                go_wp2_with fail
                go_roundg (l.length - (k+1))
                case rel =>
                  refine ⟨k+1, by omega, rfl, by go_num, fun c hc => ?_, ext_trans hbel (ext_drewND _ _)⟩
                  by_cases hck : c = k
                  · rw [hck]; exact prFar_y hx hy hf ht
                  · exact Hfar.out c (by omega)
                case measure => have := Hk.out; omega
        · have Hfar' : Hid (∀ c, c < l.length → prFar l j c = true) := fun c hc => Hfar.out c (by omega)
          clear Hfar
          go_wp2_with fail
          go_roundg (l.length - (j+1))
          case rel =>
            refine ⟨j+1, by omega, rfl, by go_num, fun c hc => ?_, Er⟩
            by_cases hcj : c = j
            · rw [hcj, ← hx.out]; exact ⟨hpr.out, fun c hc => Hfar'.out c hc⟩
            · exact Hall.out c (by omega)
          case measure => have := Hkj.out; omega
    · have Hall' : Hid (∀ c, c < l.length → prOk p.pts (l.getD c Pr.z) = true ∧ ∀ k, k < l.length → prFar l c k = true) := fun c hc => Hall.out c (by omega)
      clear Hall
      go_wp2_with fail
      go_ret
      exact ⟨by rw [deal_good p l Hok.out h12 h2 Hall'.out]; rfl, E⟩
end Go.Proofs.Ytlcmhcfnmohgmaa
