/- The walks of states of a plan, of impl: StateOk, StateNew, open, window, WindowOf, ready, ReadyOk. Conditions: the bounds and the times can be read; of window and ready: the table is small. -/
import Derived.Test.YtffcfambgcaikaaStMath
import Derived.Test.YtffcfambgcaikaaAllIn
import Derived.Test.YtffcfambgcaikaaClosed
namespace Go.Proofs.Ytffcfambgcaikaa
open Go.RowKit
set_option linter.unusedVariables false
set_option linter.unusedSimpArgs false
theorem impl_isClock (t : Int) (w : World) : Calls Try.prog 95 #[.int .i64 t] w fun e w' => e = .returned (.bool (inB t 0 2000)) ∧ w = w' := by
  go_enter Try.func95, Try.ntmps95
  go_wp2_with (go_at_call 53; refine (impl_in _ _ _ _).mono ?_; rintro e w' ⟨rfl, rfl⟩)
  go_ret
  exact ⟨rfl, rfl⟩
theorem st_no1 {p : Pl} {now : Int} {d : List Int} (h : p.fits = false) : p.stOk now d = false := by simp [Pl.stOk, h]
theorem st_no2 {p : Pl} {now : Int} {d : List Int} (h : d.length ≠ p.n) : p.stOk now d = false := by simp [Pl.stOk, h]
theorem st_no3 {p : Pl} {now : Int} {d : List Int} (h : inB now 0 2000 = false) : p.stOk now d = false := by simp [Pl.stOk, h]
theorem st_no4 {p : Pl} {now : Int} {d : List Int} (h : dA d 0 ≠ 0) : p.stOk now d = false := by simp [Pl.stOk, h]
theorem st_last {p : Pl} {now : Int} {d : List Int} (h1 : p.fits = true) (h2 : d.length = p.n) (h3 : inB now 0 2000 = true) (h4 : dA d 0 = 0) : p.stOk now d = d.all (fun x => inB x (-1) now) := by simp [Pl.stOk, h1, h2, h3, h4]
set_option maxRecDepth 100000 in
set_option maxHeartbeats 4000000 in
theorem impl_StateOk (p : Pl) (bs dv : Value) (now : Int) (d : List Int) (w : World) (hv : Bds w 0 bs p.bs) (hd : Ints w 0 dv d) :
    Calls Try.prog 75 #[.agg #[.int .i64 p.pts, bs], .agg #[.int .i64 now, dv]] w fun e w' => e = .returned (.bool (p.stOk now d)) ∧ Below w.heap.size w w' := by
  have V := Lib.hid hv
  have D := Lib.hid hd
  obtain ⟨a, c, rfl, hn, hc, -⟩ := hv.open
  obtain ⟨ad, cd, rfl, hnd, hcd, -⟩ := hd.open
  clear hv hd
  go_enter Try.func75, Try.ntmps75
  go_wp2_with fail
  obtain ⟨W, hW, A0, B0, hs, E⟩ := two_boxes w #[.int .i64 p.pts, .slice a p.bs.length c] #[.int .i64 now, .slice ad d.length cd] 25 43
  rw [← hW.out]
  refine (impl_FitsOk p _ _ (V.out.ext E)).mono ?_
  rintro e w1 ⟨rfl, hb1⟩
  have A0 := A0.ext hb1
  have B0 := B0.ext hb1
  have E := ext_trans E hb1
  obtain ⟨rc0, rz0⟩ := (A0).rules; have rl0 := (A0).lt
  obtain ⟨rc1, rz1⟩ := (B0).rules; have rl1 := (B0).lt
  obtain ⟨L, hL⟩ : ∃ L, Hid (L = d.length) := ⟨_, rfl⟩
  rw [← hL.out] at rc1 hnd ⊢
  cases hf : p.fits
  · have Hf := Lib.hid (st_no1 (now := now) (d := d) hf)
    clear hf
    go_wp2_with fail
    go_ret
    exact ⟨by rw [Hf.out]; rfl, E⟩
  have hfo := fits_ok hf
  obtain ⟨q1, q2, q3, q4, -⟩ := plok_in hfo.1
  have Hfit := Lib.hid hf
  obtain ⟨n, hnn⟩ : ∃ n, Hid (n = p.n) := ⟨_, rfl⟩
  have hp : Hid (p.pts = (n : Int)) := by rw [hnn.out]; exact Lib.hid q1
  rw [← hnn.out] at q2 q3
  rw [hp.out] at rc0
  clear hf hfo q1 q4
  by_cases hl : ¬ L = n
  · have hne : ((L : Int) != (n : Int)) = true := by simp; omega
    have Hf := Lib.hid (st_no2 (p := p) (now := now) (d := d) (by rw [← hL.out, ← hnn.out]; exact hl))
    have Hl := Lib.hid hl
    clear hl
    go_wp2_with fail
    go_ret
    exact ⟨by rw [Hf.out]; rfl, E⟩
  have hl := Decidable.not_not.1 hl
  have Hl : Hid (d.length = p.n) := by rw [← hL.out, ← hnn.out]; exact Lib.hid hl
  rw [hl] at rc1 hnd
  have hln : n ≤ cd := by rw [← hl]; rw [hl]; exact hnd
  have HlL := Lib.hid hl
  clear hl
  rw [HlL.out]
  go_wp2_with fail
  refine (impl_isClock now _).mono ?_
  rintro e w2 ⟨rfl, rfl⟩
  cases hk : inB now 0 2000
  · have Hf := Lib.hid (st_no3 (p := p) (d := d) hk)
    clear hk
    go_wp2_with fail
    go_ret
    exact ⟨by rw [Hf.out]; rfl, E⟩
  have Hk := Lib.hid hk
  clear hk
  obtain ⟨g, hag, -, hg, -, cx⟩ := (D.out.ext E).at_ (j := 0) (by rw [Hl.out, ← hnn.out]; omega)
  subst hag
  obtain ⟨x, hx⟩ : ∃ x, Hid (x = dA d 0) := ⟨_, rfl⟩
  rw [show d.getD 0 0 = x from hx.out.symm] at cx
  by_cases hx0 : x = 0
  · have Hx0 := Lib.hid (hx.out.symm.trans hx0)
    have hxb : (x != 0) = false := by simp [hx0]
    have HX := Lib.hid hx0
    clear hx0
    go_wp2_with fail
    refine (impl_allIn _ d (-1) now _ ((show Ints w1 0 (.slice (some ⟨g, 0, none⟩) n cd) d by rw [← HlL.out, hL.out]; exact D.out.ext E))).mono ?_
    rintro e w3 ⟨rfl, hb3⟩
    go_wp2_with fail
    go_ret
    exact ⟨by rw [st_last Hfit.out Hl.out Hk.out Hx0.out]; rfl, ext_trans E hb3⟩
  · have hxb : (x != 0) = true := by simp [hx0]
    have Hf := Lib.hid (st_no4 (p := p) (now := now) (d := d) (by rw [← hx.out]; exact hx0))
    have HX := Lib.hid hx0
    clear hx0
    go_wp2_with fail
    go_ret
    exact ⟨by rw [Hf.out]; rfl, E⟩
set_option maxHeartbeats 1000000 in
theorem impl_open (now : Int) (dv : Value) (d : List Int) (k : Nat) (w : World) (hd : Ints w 0 dv d) (hk : k < d.length) (hl : d.length ≤ 6) :
    Calls Try.prog 51 #[.agg #[.int .i64 now, dv], .int .i64 k] w fun e w' => e = .returned (.bool (decide (dA d k = -1))) ∧ Below w.heap.size w w' := by
  have D := Lib.hid hd
  obtain ⟨ad, cd, rfl, hnd, hcd, -⟩ := hd.open
  clear hd
  go_enter Try.func51, Try.ntmps51
  go_wp2_with fail
  obtain ⟨W, hW, A0, hs, E⟩ := one_box w #[.int .i64 now, .slice ad d.length cd] 43
  rw [← hW.out]
  obtain ⟨rc0, rz0⟩ := (A0).rules; have rl0 := (A0).lt
  go_wp2_with fail
  refine (impl_in k 0 _ _).mono ?_
  rintro e w2 ⟨rfl, rfl⟩
  have hi : inB (k : Int) 0 ((d.length : Int) - 1) = true := (inB_iff _ _ _).2 (by omega)
  rw [hi]
  obtain ⟨g, hag, -, hg, -, cx⟩ := (D.out.ext E).at_ hk
  subst hag
  obtain ⟨x, hx⟩ : ∃ x, Hid (x = dA d k) := ⟨_, rfl⟩
  rw [show d.getD k 0 = x from hx.out.symm] at cx
  go_wp2_with fail
  go_ret
  exact ⟨by rw [← hx.out]; rfl, E⟩
set_option maxRecDepth 100000 in
set_option maxHeartbeats 4000000 in
theorem impl_window (n : Nat) (now : Int) (d : List Int) (D : Tbl) (dv vt : Value) (ht : List Value) (pt : Nat) (w : World) (hd : Ints w 0 dv d) (hl : d.length = n) (hG : TabG w 0 n n vt ht D) (hpt : pt < n) (hn : n ≤ 6)
    (hD : ∀ i j, i < n → j < n → -6336 ≤ D i j ∧ D i j ≤ 100000) (hdv : ∀ k, k < n → -1 ≤ dA d k ∧ dA d k ≤ 2000) :
    Calls Try.prog 78 #[.agg #[.int .i64 now, dv], vt, .int .i64 pt] w fun e w' => e = .returned (.tuple #[.int .i64 (winLow D now d pt n), .int .i64 (winHigh D d pt n)]) ∧ Below w.heap.size w w' := by
  have Dd := Lib.hid hd
  have G := Lib.hid hG
  have HD := Lib.hid hD
  have Hdv := Lib.hid hdv
  have HL := Lib.hid hl
  obtain ⟨ad, cd, rfl, hnd, hcd, -⟩ := hd.open
  obtain ⟨at_, ct, rfl, hct, hct2⟩ := hG.open
  rw [hl] at hnd ⊢
  clear hd hG hD hdv hl
  go_enter Try.func78, Try.ntmps78
  go_wp2_with fail
  obtain ⟨W, hW, A0, hs, E⟩ := one_box w #[.int .i64 now, .slice ad n cd] 43
  rw [← hW.out]
  have Dd := Lib.hid (Dd.out.ext E)
  have G := Lib.hid (G.out.ext E)
  obtain ⟨rc0, rz0⟩ := (A0).rules; have rl0 := (A0).lt
  go_wp2_with fail
  go_loopg [8, 9, 17] n (fun m lo hi kk wr => ∃ k : Nat, k ≤ n ∧ m = n - k ∧ kk = .int .i64 k ∧ lo = .int .i64 (winLow D now d pt k) ∧ hi = .int .i64 (winHigh D d pt k) ∧ wr = W)
  case atStart => exact ⟨0, by omega, by omega, rfl, rfl, rfl, rfl⟩
  case round =>
    obtain ⟨k, hk, hgk, rfl, rfl, rfl, rfl⟩ := hrel
    have Hk := Lib.hid hgk
    clear hgk
    obtain ⟨lo, hlo⟩ : ∃ x, Hid (x = winLow D now d pt k) := ⟨_, rfl⟩
    obtain ⟨hi, hhi⟩ : ∃ x, Hid (x = winHigh D d pt k) := ⟨_, rfl⟩
    rw [← hlo.out, ← hhi.out]
    by_cases hlk : k < n
    · obtain ⟨gx, hag, -, hg, -, cx⟩ := Dd.out.at_ (j := k) (by rw [HL.out]; exact hlk)
      subst hag
      obtain ⟨x, hx⟩ : ∃ x, Hid (x = dA d k) := ⟨_, rfl⟩
      rw [show d.getD k 0 = x from hx.out.symm] at cx
      have hxr := Hdv.out k hlk
      rw [← hx.out] at hxr
      by_cases hx1 : x = -1
      · have hxb : (x == -1) = true := by simp [hx1]
        have h1 : Hid (winLow D now d pt (k+1) = lo) := by rw [winLow_succ, if_neg (fun h => h.1 (by rw [← hx.out]; exact hx1)), hlo.out]; exact Lib.hid rfl
        have h2 : Hid (winHigh D d pt (k+1) = hi) := by rw [winHigh_succ, if_neg (fun h => h.1 (by rw [← hx.out]; exact hx1)), hhi.out]; exact Lib.hid rfl
        have Hx1 := Lib.hid hx1
        clear hx1
        go_wp2_with fail
        go_roundg (n - (k+1))
        case rel => exact ⟨k+1, by omega, rfl, by go_num, by rw [h1.out], by rw [h2.out], rfl⟩
        case measure => have := Hk.out; omega
      · have hxb : (x == -1) = false := by simp [hx1]
        obtain ⟨gt, ai, ci, hag, _, hgt, _, hOi, hci, hci2, hri⟩ := G.out.head hpt
        subst hag
        obtain ⟨_, ak, ck, hag, _, _, _, hOk, hck, hck2, hrk⟩ := G.out.head hlk
        cases hag
        have e1 : (rowOf n (D pt)).length = n := rowOf_length _ _
        have e2 : (rowOf n (D k)).length = n := rowOf_length _ _
        obtain ⟨gi, hai, _, hgi, _, cy⟩ := hri.at_ (j := k) (by omega)
        subst hai
        obtain ⟨gk, hak, _, hgk, _, cz⟩ := hrk.at_ (j := pt) (by omega)
        subst hak
        rw [rowOf_getD _ _ _ hlk] at cy
        rw [rowOf_getD _ _ _ hpt] at cz
        obtain ⟨y, hy⟩ : ∃ x, Hid (x = D pt k) := ⟨_, rfl⟩
        obtain ⟨z, hz⟩ : ∃ x, Hid (x = D k pt) := ⟨_, rfl⟩
        have hyr := HD.out pt k hpt hlk
        have hzr := HD.out k pt hlk hpt
        rw [← hy.out] at cy hyr
        rw [← hz.out] at cz hzr
        clear e1 e2 hri hrk
        have h1 : Hid (winLow D now d pt (k+1) = if y < 100000 then max lo (x - y) else lo) := by
          rw [winLow_succ, ← hx.out, ← hy.out, ← hlo.out]
          by_cases h : y < 100000
          · rw [if_pos ⟨hx1, h⟩, if_pos h]; exact Lib.hid rfl
          · rw [if_neg (fun q => h q.2), if_neg h]; exact Lib.hid rfl
        have h2 : Hid (winHigh D d pt (k+1) = if z < 100000 then min hi (x + z) else hi) := by
          rw [winHigh_succ, ← hx.out, ← hz.out, ← hhi.out]
          by_cases h : z < 100000
          · rw [if_pos ⟨hx1, h⟩, if_pos h]; exact Lib.hid rfl
          · rw [if_neg (fun q => h q.2), if_neg h]; exact Lib.hid rfl
        have Hx1 := Lib.hid hx1
        clear hx1
        have hw1 : IntKind.i64.wrap (x - y) = x - y := IntWalk.i64_in _ (by omega)
        have hw2 : IntKind.i64.wrap (x + z) = x + z := IntWalk.i64_in _ (by omega)
        have fin : Hid (∀ m : Nat, k + 1 ≤ n) := Lib.hid (fun _ => hlk)
        by_cases hyf : y < 100000
        · have hyb : (y != 100000) = true := by simp; omega
          rw [if_pos hyf] at h1
          by_cases hzf : z < 100000
          · have hzb : (z != 100000) = true := by simp; omega
            rw [if_pos hzf] at h2
            by_cases hm : lo < x - y
            · rw [Int.max_eq_right (by omega)] at h1
              by_cases hm2 : hi ≤ x + z
              · rw [Int.min_eq_left hm2] at h2
                go_wp2_with fail
                go_roundg (n - (k+1))
                case rel => exact ⟨k+1, by omega, rfl, by go_num, by rw [h1.out], by rw [h2.out], rfl⟩
                case measure => have := Hk.out; omega
              · rw [Int.min_eq_right (by omega)] at h2
                go_wp2_with fail
                go_roundg (n - (k+1))
                case rel => exact ⟨k+1, by omega, rfl, by go_num, by rw [h1.out], by rw [h2.out], rfl⟩
                case measure => have := Hk.out; omega
            · rw [Int.max_eq_left (by omega)] at h1
              by_cases hm2 : hi ≤ x + z
              · rw [Int.min_eq_left hm2] at h2
                go_wp2_with fail
                go_roundg (n - (k+1))
                case rel => exact ⟨k+1, by omega, rfl, by go_num, by rw [h1.out], by rw [h2.out], rfl⟩
                case measure => have := Hk.out; omega
              · rw [Int.min_eq_right (by omega)] at h2
                go_wp2_with fail
                go_roundg (n - (k+1))
                case rel => exact ⟨k+1, by omega, rfl, by go_num, by rw [h1.out], by rw [h2.out], rfl⟩
                case measure => have := Hk.out; omega
          · have hzb : (z != 100000) = false := by simp; omega
            rw [if_neg hzf] at h2
            by_cases hm : lo < x - y
            · rw [Int.max_eq_right (by omega)] at h1
              go_wp2_with fail
              go_roundg (n - (k+1))
              case rel => exact ⟨k+1, by omega, rfl, by go_num, by rw [h1.out], by rw [h2.out], rfl⟩
              case measure => have := Hk.out; omega
            · rw [Int.max_eq_left (by omega)] at h1
              go_wp2_with fail
              go_roundg (n - (k+1))
              case rel => exact ⟨k+1, by omega, rfl, by go_num, by rw [h1.out], by rw [h2.out], rfl⟩
              case measure => have := Hk.out; omega
        · have hyb : (y != 100000) = false := by simp; omega
          rw [if_neg hyf] at h1
          by_cases hzf : z < 100000
          · have hzb : (z != 100000) = true := by simp; omega
            rw [if_pos hzf] at h2
            by_cases hm2 : hi ≤ x + z
            · rw [Int.min_eq_left hm2] at h2
              go_wp2_with fail
              go_roundg (n - (k+1))
              case rel => exact ⟨k+1, by omega, rfl, by go_num, by rw [h1.out], by rw [h2.out], rfl⟩
              case measure => have := Hk.out; omega
            · rw [Int.min_eq_right (by omega)] at h2
              go_wp2_with fail
              go_roundg (n - (k+1))
              case rel => exact ⟨k+1, by omega, rfl, by go_num, by rw [h1.out], by rw [h2.out], rfl⟩
              case measure => have := Hk.out; omega
          · have hzb : (z != 100000) = false := by simp; omega
            rw [if_neg hzf] at h2
            go_wp2_with fail
            go_roundg (n - (k+1))
            case rel => exact ⟨k+1, by omega, rfl, by go_num, by rw [h1.out], by rw [h2.out], rfl⟩
            case measure => have := Hk.out; omega
    · have hkn : n = k := by omega
      subst hkn
      go_wp2_with fail
      go_ret2
      exact ⟨by rw [hlo.out, hhi.out]; rfl, E⟩
def winOk (p : Pl) (now : Int) (d : List Int) (k : Nat) : Bool := p.stOk now d && decide (dA d k = -1)
theorem st_table {p : Pl} {now : Int} {d : List Int} (h : p.stOk now d = true) : (∀ i j, i < p.n → j < p.n → -6336 ≤ p.clo i j ∧ p.clo i j ≤ 100000) ∧ ∀ k, k < p.n → -1 ≤ dA d k ∧ dA d k ≤ 2000 := by
  obtain ⟨h1, h2, h3, h4, h5⟩ := st_in h
  exact ⟨fun i j hi hj => clo_in (fits_ok h1).1 p.n (Nat.le_refl _) i j hi hj, fun k hk => by have := h5 k hk; omega⟩
set_option maxRecDepth 100000 in
set_option maxHeartbeats 4000000 in
theorem impl_WindowOf (p : Pl) (bs dv : Value) (now : Int) (d : List Int) (k : Nat) (w : World) (hv : Bds w 0 bs p.bs) (hd : Ints w 0 dv d) (hst : p.stOk now d = true) (hk : k < p.n) (ho : dA d k = -1) :
    Calls Try.prog 44 #[.agg #[.int .i64 p.pts, bs], .agg #[.int .i64 now, dv], .int .i64 k] w fun e w' => e = .returned (.tuple #[.int .i64 (winLow p.clo now d k p.n), .int .i64 (winHigh p.clo d k p.n), .bool true]) ∧ Below w.heap.size w w' := by
  have V := Lib.hid hv
  have D := Lib.hid hd
  have Hst := Lib.hid hst
  have Ho := Lib.hid ho
  obtain ⟨s1, s2, s3, s4, s5⟩ := st_in hst
  have hfo := fits_ok s1
  obtain ⟨q1, q2, q3, q4, -⟩ := plok_in hfo.1
  have Hfit := Lib.hid s1
  obtain ⟨n, hnn⟩ : ∃ n, Hid (n = p.n) := ⟨_, rfl⟩
  have Hl : Hid (d.length = n) := by rw [hnn.out]; exact Lib.hid s2
  rw [← hnn.out] at q2 q3 hk ⊢
  obtain ⟨a, c, rfl, hn, hc, -⟩ := hv.open
  obtain ⟨ad, cd, rfl, hnd, hcd, -⟩ := hd.open
  clear hv hd hst ho s1 s2 s3 s4 s5 hfo q1 q4
  go_enter Try.func44, Try.ntmps44
  go_wp2_with fail
  obtain ⟨W, hW, A0, B0, hs, E⟩ := two_boxes w #[.int .i64 p.pts, .slice a p.bs.length c] #[.int .i64 now, .slice ad d.length cd] 25 43
  rw [← hW.out]
  obtain ⟨rc0, rz0⟩ := (A0).rules; have rl0 := (A0).lt
  obtain ⟨rc1, rz1⟩ := (B0).rules; have rl1 := (B0).lt
  go_wp2_with fail
  refine (impl_StateOk p _ _ now d _ (V.out.ext E) (D.out.ext E)).mono ?_
  rintro e w1 ⟨rfl, hb1⟩
  rw [Hst.out]
  clear rc0 rz0 rl0 rc1 rz1 rl1
  have A0 := A0.ext hb1
  have B0 := B0.ext hb1
  have E := ext_trans E hb1
  obtain ⟨rc0, rz0⟩ := (A0).rules; have rl0 := (A0).lt
  obtain ⟨rc1, rz1⟩ := (B0).rules; have rl1 := (B0).lt
  go_wp2_with fail
  refine (impl_open now _ d k _ (D.out.ext E) (by rw [Hl.out]; exact hk) (by rw [Hl.out]; exact q3)).mono ?_
  rintro e w2 ⟨rfl, hb2⟩
  rw [show decide (dA d k = -1) = true from decide_eq_true Ho.out]
  clear rc0 rz0 rl0 rc1 rz1 rl1
  have A0 := A0.ext hb2
  have B0 := B0.ext hb2
  have E := ext_trans E hb2
  obtain ⟨rc0, rz0⟩ := (A0).rules; have rl0 := (A0).lt
  obtain ⟨rc1, rz1⟩ := (B0).rules; have rl1 := (B0).lt
  go_wp2_with fail
  refine (impl_closed p _ _ (V.out.ext E)).mono ?_
  rintro e w3 ⟨vt, ht, rfl, hG, hb3⟩
  have G : Hid (TabG w3 0 n n vt ht p.clo) := by rw [hnn.out]; exact Lib.hid ((hG Hfit.out).base (Nat.zero_le _))
  clear hG rc0 rz0 rl0 rc1 rz1 rl1
  have B0 := B0.ext hb3
  have E := ext_trans E hb3
  obtain ⟨rc1, rz1⟩ := (B0).rules; have rl1 := (B0).lt
  go_wp2_with fail
  refine (impl_window n now d p.clo _ vt ht k _ (D.out.ext E) Hl.out G.out hk q3 (by rw [hnn.out]; exact (st_table Hst.out).1) (by rw [hnn.out]; exact (st_table Hst.out).2)).mono ?_
  rintro e w4 ⟨rfl, hb4⟩
  go_wp2_with fail
  refine bodyPost_ret (v := .tuple #[.int .i64 (winLow p.clo now d k n), .int .i64 (winHigh p.clo d k n), .bool true]) (by simp [results, Try.results44, go_sem, *]) rfl ?_
  exact ⟨rfl, ext_trans E hb4⟩
set_option maxRecDepth 100000 in
set_option maxHeartbeats 4000000 in
theorem impl_ready (n : Nat) (now : Int) (d : List Int) (D : Tbl) (dv vt : Value) (ht : List Value) (pt : Nat) (w : World) (hd : Ints w 0 dv d) (hl : d.length = n) (hG : TabG w 0 n n vt ht D) (hpt : pt < n) (hn : n ≤ 6) :
    Calls Try.prog 77 #[.agg #[.int .i64 now, dv], vt, .int .i64 pt] w fun e w' => e = .returned (.bool (readyTo D d pt n)) ∧ Below w.heap.size w w' := by
  have Dd := Lib.hid hd
  have G := Lib.hid hG
  have HL := Lib.hid hl
  obtain ⟨ad, cd, rfl, hnd, hcd, -⟩ := hd.open
  obtain ⟨at_, ct, rfl, hct, hct2⟩ := hG.open
  rw [hl] at hnd
  rw [hl]
  clear hd hG hl
  go_enter Try.func77, Try.ntmps77
  go_wp2_with fail
  obtain ⟨W, hW, A0, hs, E⟩ := one_box w #[.int .i64 now, .slice ad n cd] 43
  rw [← hW.out]
  have Dd := Lib.hid (Dd.out.ext E)
  have G := Lib.hid (G.out.ext E)
  obtain ⟨rc0, rz0⟩ := (A0).rules; have rl0 := (A0).lt
  go_wp2_with fail
  clear rc0 rz0 rl0
  go_loopg [11] n (fun m kk wr => ∃ k : Nat, k ≤ n ∧ m = n - k ∧ kk = .int .i64 k ∧ Below W.heap.size W wr ∧ Hid (readyTo D d pt k = true))
  case atStart => exact ⟨0, by omega, by omega, rfl, ext_refl _, Lib.hid (readyTo_iff.2 fun i hi => by omega)⟩
  case round =>
    obtain ⟨k, hk, hgk, rfl, hb, Hr⟩ := hrel
    have Hk := Lib.hid hgk
    clear hgk
    by_cases hlk : k < n
    · have A1 := A0.ext hb
      obtain ⟨rc0, rz0⟩ := (A1).rules; have rl0 := (A1).lt
      go_wp2_with fail
      refine (impl_open now _ d k _ (by have := Dd.out.ext hb; rw [HL.out] at this; exact this) (by rw [HL.out]; exact hlk) (by rw [HL.out]; exact hn)).mono ?_
      rintro e w2 ⟨rfl, hb2⟩
      clear rc0 rz0 rl0
      have hb := ext_trans hb hb2
      by_cases hx : dA d k = -1
      · rw [show decide (dA d k = -1) = true from decide_eq_true hx]
        have Hx := Lib.hid hx
        clear hx
        obtain ⟨gt, ai, ci, hag, _, hgt, _, hOi, hci, hci2, hri⟩ := (G.out.ext hb).head hpt
        subst hag
        have e1 : (rowOf n (D pt)).length = n := rowOf_length _ _
        obtain ⟨gi, hai, _, hgi, _, cy⟩ := hri.at_ (j := k) (by omega)
        subst hai
        rw [rowOf_getD _ _ _ hlk] at cy
        obtain ⟨y, hy⟩ : ∃ x, Hid (x = D pt k) := ⟨_, rfl⟩
        rw [← hy.out] at cy
        clear e1 hri
        by_cases hy0 : y < 0
        · have Hf : Hid (readyTo D d pt n = false) := by
            cases h : readyTo D d pt n
            · exact Lib.hid rfl
            · have := readyTo_iff.1 h k hlk Hx.out; rw [← hy.out] at this; omega
          go_wp2_with fail
          go_ret
          exact ⟨by rw [Hf.out]; rfl, ext_trans E hb⟩
        · go_wp2_with fail
          go_roundg (n - (k+1))
          case rel =>
            refine ⟨k+1, by omega, rfl, by go_num, hb, Lib.hid (readyTo_iff.2 fun i hi hd => ?_)⟩
            by_cases e : i = k
            · subst e; rw [← hy.out]; omega
            · exact readyTo_iff.1 Hr.out i (by omega) hd
          case measure => have := Hk.out; omega
      · rw [show decide (dA d k = -1) = false from decide_eq_false hx]
        have Hx := Lib.hid hx
        clear hx
        go_wp2_with fail
        go_roundg (n - (k+1))
        case rel =>
          refine ⟨k+1, by omega, rfl, by go_num, hb, Lib.hid (readyTo_iff.2 fun i hi hd => ?_)⟩
          by_cases e : i = k
          · subst e; exact absurd hd Hx.out
          · exact readyTo_iff.1 Hr.out i (by omega) hd
        case measure => have := Hk.out; omega
    · have hkn : n = k := by omega
      subst hkn
      go_wp2_with fail
      go_ret
      exact ⟨by rw [Hr.out]; rfl, ext_trans E hb⟩
set_option maxRecDepth 100000 in
set_option maxHeartbeats 4000000 in
theorem impl_ReadyOk (p : Pl) (bs dv : Value) (now : Int) (d : List Int) (k : Nat) (w : World) (hv : Bds w 0 bs p.bs) (hd : Ints w 0 dv d) (hst : p.stOk now d = true) (hk : k < p.n) :
    Calls Try.prog 43 #[.agg #[.int .i64 p.pts, bs], .agg #[.int .i64 now, dv], .int .i64 k] w fun e w' => e = .returned (.bool (readyAt p.clo d p.n k)) ∧ Below w.heap.size w w' := by
  have V := Lib.hid hv
  have D := Lib.hid hd
  have Hst := Lib.hid hst
  obtain ⟨s1, s2, s3, s4, s5⟩ := st_in hst
  have hfo := fits_ok s1
  obtain ⟨q1, q2, q3, q4, -⟩ := plok_in hfo.1
  have Hfit := Lib.hid s1
  obtain ⟨n, hnn⟩ : ∃ n, Hid (n = p.n) := ⟨_, rfl⟩
  have Hl : Hid (d.length = n) := by rw [hnn.out]; exact Lib.hid s2
  rw [← hnn.out] at q2 q3 hk ⊢
  obtain ⟨a, c, rfl, hn, hc, -⟩ := hv.open
  obtain ⟨ad, cd, rfl, hnd, hcd, -⟩ := hd.open
  clear hv hd hst s1 s2 s3 s4 s5 hfo q1 q4
  go_enter Try.func43, Try.ntmps43
  go_wp2_with fail
  obtain ⟨W, hW, A0, B0, hs, E⟩ := two_boxes w #[.int .i64 p.pts, .slice a p.bs.length c] #[.int .i64 now, .slice ad d.length cd] 25 43
  rw [← hW.out]
  obtain ⟨rc0, rz0⟩ := (A0).rules; have rl0 := (A0).lt
  obtain ⟨rc1, rz1⟩ := (B0).rules; have rl1 := (B0).lt
  go_wp2_with fail
  refine (impl_StateOk p _ _ now d _ (V.out.ext E) (D.out.ext E)).mono ?_
  rintro e w1 ⟨rfl, hb1⟩
  rw [Hst.out]
  clear rc0 rz0 rl0 rc1 rz1 rl1
  have A0 := A0.ext hb1
  have B0 := B0.ext hb1
  have E := ext_trans E hb1
  obtain ⟨rc0, rz0⟩ := (A0).rules; have rl0 := (A0).lt
  obtain ⟨rc1, rz1⟩ := (B0).rules; have rl1 := (B0).lt
  go_wp2_with fail
  refine (impl_open now _ d k _ (D.out.ext E) (by rw [Hl.out]; exact hk) (by rw [Hl.out]; exact q3)).mono ?_
  rintro e w2 ⟨rfl, hb2⟩
  clear rc0 rz0 rl0 rc1 rz1 rl1
  have A0 := A0.ext hb2
  have B0 := B0.ext hb2
  have E := ext_trans E hb2
  obtain ⟨rc0, rz0⟩ := (A0).rules; have rl0 := (A0).lt
  obtain ⟨rc1, rz1⟩ := (B0).rules; have rl1 := (B0).lt
  by_cases ho : ¬ dA d k = -1
  · rw [show decide (dA d k = -1) = false from decide_eq_false ho]
    have Hf : Hid (readyAt p.clo d n k = false) := by simp [readyAt, ho]; exact Lib.hid trivial
    clear ho
    go_wp2_with fail
    go_ret
    exact ⟨by rw [Hf.out]; rfl, E⟩
  have ho := Decidable.not_not.1 ho
  have Hf : Hid (readyAt p.clo d n k = readyTo p.clo d k n) := by simp [readyAt, ho]; exact Lib.hid trivial
  rw [show decide (dA d k = -1) = true from decide_eq_true ho]
  clear ho
  go_wp2_with fail
  refine (impl_closed p _ _ (V.out.ext E)).mono ?_
  rintro e w3 ⟨vt, ht, rfl, hG, hb3⟩
  have G : Hid (TabG w3 0 n n vt ht p.clo) := by rw [hnn.out]; exact Lib.hid ((hG Hfit.out).base (Nat.zero_le _))
  clear hG rc0 rz0 rl0 rc1 rz1 rl1
  have B0 := B0.ext hb3
  have E := ext_trans E hb3
  obtain ⟨rc1, rz1⟩ := (B0).rules; have rl1 := (B0).lt
  go_wp2_with fail
  refine (impl_ready n now d p.clo _ vt ht k _ (D.out.ext E) Hl.out G.out hk q3).mono ?_
  rintro e w4 ⟨rfl, hb4⟩
  go_wp2_with fail
  go_ret
  exact ⟨by rw [Hf.out]; rfl, ext_trans E hb4⟩
end Go.Proofs.Ytffcfambgcaikaa
