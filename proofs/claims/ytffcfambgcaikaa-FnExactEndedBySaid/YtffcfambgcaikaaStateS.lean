/- The walks of states of a plan, of spec: StateOk, l6Window, WindowOf, ReadyOk, DeadlineOf. Conditions: the bounds and the times can be read; of l6Window: the table is small. -/
import Derived.Test.YtffcfambgcaikaaStateI
import Derived.Test.YtffcfambgcaikaaFitsS
namespace Go.Proofs.Ytffcfambgcaikaa
open Go.RowKit
set_option linter.unusedVariables false
set_option linter.unusedSimpArgs false
set_option maxRecDepth 100000 in
set_option maxHeartbeats 4000000 in
theorem spec_StateOk (p : Pl) (bs dv : Value) (now : Int) (d : List Int) (w : World) (hv : Bds w 0 bs p.bs) (hd : Ints w 0 dv d) :
    Calls Try.prog 79 #[.agg #[.int .i64 p.pts, bs], .agg #[.int .i64 now, dv]] w fun e w' => e = .returned (.bool (p.stOk now d)) ∧ Below w.heap.size w w' := by
  have V := Lib.hid hv
  have D := Lib.hid hd
  obtain ⟨a, c, rfl, hn, hc, -⟩ := hv.open
  obtain ⟨ad, cd, rfl, hnd, hcd, -⟩ := hd.open
  clear hv hd
  go_enter Try.func79, Try.ntmps79
  go_wp2_with fail
  obtain ⟨W, hW, A0, B0, hs, E⟩ := two_boxes w #[.int .i64 p.pts, .slice a p.bs.length c] #[.int .i64 now, .slice ad d.length cd] 25 43
  rw [← hW.out]
  refine (spec_FitsOk p _ _ (V.out.ext E)).mono ?_
  rintro e w1 ⟨rfl, hb1⟩
  have A0 := A0.ext hb1
  have B0 := B0.ext hb1
  have E := ext_trans E hb1
  obtain ⟨rc0, rz0⟩ := (A0).rules; have rl0 := (A0).lt
  obtain ⟨rc1, rz1⟩ := (B0).rules; have rl1 := (B0).lt
  obtain ⟨L, hL⟩ : ∃ L, Hid (L = d.length) := ⟨_, rfl⟩
  rw [← hL.out] at rc1 hnd ⊢
  cases hf : p.fits
  · have Hf := Lib.hid (st_no1 (now := now) (d := d) hf)
    clear hf
    go_wp2_with fail
    go_ret
    exact ⟨by rw [Hf.out]; rfl, E⟩
  have hfo := fits_ok hf
  obtain ⟨q1, q2, q3, q4, -⟩ := plok_in hfo.1
  have Hfit := Lib.hid hf
  obtain ⟨n, hnn⟩ : ∃ n, Hid (n = p.n) := ⟨_, rfl⟩
  have hp : Hid (p.pts = (n : Int)) := by rw [hnn.out]; exact Lib.hid q1
  rw [← hnn.out] at q2 q3
  rw [hp.out] at rc0
  clear hf hfo q1 q4
  by_cases hl : ¬ L = n
  · have hne : ((L : Int) != (n : Int)) = true := by simp; omega
    have Hf := Lib.hid (st_no2 (p := p) (now := now) (d := d) (by rw [← hL.out, ← hnn.out]; exact hl))
    have Hl := Lib.hid hl
    clear hl
    go_wp2_with fail
    go_ret
    exact ⟨by rw [Hf.out]; rfl, E⟩
  have hl := Decidable.not_not.1 hl
  have Hl : Hid (d.length = p.n) := by rw [← hL.out, ← hnn.out]; exact Lib.hid hl
  rw [hl] at rc1 hnd
  have hln : n ≤ cd := by rw [← hl]; rw [hl]; exact hnd
  have HlL := Lib.hid hl
  clear hl
  rw [HlL.out]
  go_wp2_with fail
  refine (spec_l1In now 0 2000 _).mono ?_
  rintro e w2 ⟨rfl, rfl⟩
  cases hk : inB now 0 2000
  · have Hf := Lib.hid (st_no3 (p := p) (d := d) hk)
    clear hk
    go_wp2_with fail
    go_ret
    exact ⟨by rw [Hf.out]; rfl, E⟩
  have Hk := Lib.hid hk
  clear hk
  obtain ⟨g, hag, -, hg, -, cx⟩ := (D.out.ext E).at_ (j := 0) (by rw [Hl.out, ← hnn.out]; omega)
  subst hag
  obtain ⟨x, hx⟩ : ∃ x, Hid (x = dA d 0) := ⟨_, rfl⟩
  rw [show d.getD 0 0 = x from hx.out.symm] at cx
  by_cases hx0 : x = 0
  · have Hx0 := Lib.hid (hx.out.symm.trans hx0)
    have hxb : (x != 0) = false := by simp [hx0]
    have HX := Lib.hid hx0
    clear hx0
    go_wp2_with fail
    clear rc0 rz0 rl0 rc1 rz1 rl1 A0
    have hqE := E.size
    have B0 : Box w1 (w.heap.size + 1) 43 #[.int .i64 now, .slice (some ⟨g, 0, none⟩) n cd] := by rw [← HlL.out, hL.out]; exact B0
    go_loopg [5] n (fun m kk wr => ∃ k : Nat, k ≤ n ∧ m = n - k ∧ kk = .int .i64 k ∧ Below w1.heap.size w1 wr ∧ Hid (∀ i, i < k → inB (dA d i) (-1) now = true))
    case atStart => exact ⟨0, by omega, by omega, rfl, ext_refl _, fun i hi => by omega⟩
    case round =>
      obtain ⟨k, hk, hgk, rfl, hb, Hall⟩ := hrel
      have Hk' := Lib.hid hgk
      clear hgk
      have B1 := B0.ext hb
      obtain ⟨rc1, rz1⟩ := (B1).rules; have rl1 := (B1).lt
      by_cases hlk : k < n
      · obtain ⟨g2, hag, -, hg2, -, cz⟩ := ((D.out.ext E).ext hb).at_ (j := k) (by rw [Hl.out, ← hnn.out]; exact hlk)
        cases hag
        obtain ⟨z, hz⟩ : ∃ x, Hid (x = dA d k) := ⟨_, rfl⟩
        rw [show d.getD k 0 = z from hz.out.symm] at cz
        go_wp2_with fail
        go_quiet (first | (go_at_call 67; refine Calls.quiet_of_same ((spec_l1In _ _ _ _).mono fun e w' h => ⟨h.1, h.2.symm⟩)))
        cases hzb : inB z (-1) now
        · have Hf : Hid (p.stOk now d = false) := by
            rw [st_last Hfit.out Hl.out Hk.out Hx0.out, List.all_eq_false]
            exact Lib.hid ⟨z, by rw [hz.out]; unfold dA; rw [List.getD_eq_getElem?_getD, List.getElem?_eq_getElem (by rw [Hl.out, ← hnn.out]; exact hlk)]; exact List.getElem_mem _, by simp [hzb]⟩
          clear hzb
          go_wp2_with fail
          go_ret
          exact ⟨by rw [Hf.out]; rfl, ext_trans E (ext_trans hb ⟨rfl, rfl, rfl, Nat.le_refl _, fun _ _ => rfl⟩)⟩
        · have Hzb := Lib.hid hzb
          clear hzb
          go_wp2_with fail
          go_roundg (n - (k+1))
          case rel =>
            refine ⟨k+1, by omega, rfl, by go_num, ext_trans hb ⟨rfl, rfl, rfl, Nat.le_refl _, fun _ _ => rfl⟩, fun i hi => ?_⟩
            by_cases e : i = k
            · subst e; rw [← hz.out]; exact Hzb.out
            · exact Hall.out i (by omega)
          case measure => have := Hk'.out; omega
      · have hkn : n = k := by omega
        subst hkn
        have Hf : Hid (p.stOk now d = true) := by
          rw [st_last Hfit.out Hl.out Hk.out Hx0.out, List.all_eq_true]
          refine Lib.hid fun y hy => ?_
          obtain ⟨i, hi, rfl⟩ := List.mem_iff_getElem.1 hy
          have := Hall.out i (by rw [hnn.out, ← Hl.out]; exact hi)
          unfold dA at this
          rw [List.getD_eq_getElem?_getD, List.getElem?_eq_getElem hi] at this
          exact this
        go_wp2_with fail
        go_ret
        exact ⟨by rw [Hf.out]; rfl, ext_trans E hb⟩
  · have hxb : (x != 0) = true := by simp [hx0]
    have Hf := Lib.hid (st_no4 (p := p) (now := now) (d := d) (by rw [← hx.out]; exact hx0))
    have HX := Lib.hid hx0
    clear hx0
    go_wp2_with fail
    go_ret
    exact ⟨by rw [Hf.out]; rfl, E⟩
set_option maxRecDepth 100000 in
set_option maxHeartbeats 8000000 in
theorem spec_l6Window (n : Nat) (now : Int) (d : List Int) (D : Tbl) (dv vt : Value) (ht : List Value) (pt : Nat) (w : World) (hd : Ints w 0 dv d) (hl : d.length = n) (hG : TabG w 0 n n vt ht D) (hpt : pt < n) (hn : n ≤ 6)
    (hD : ∀ i j, i < n → j < n → -6336 ≤ D i j ∧ D i j ≤ 100000) (hdv : ∀ k, k < n → -1 ≤ dA d k ∧ dA d k ≤ 2000) :
    Calls Try.prog 80 #[vt, .agg #[.int .i64 now, dv], .int .i64 pt] w fun e w' => e = .returned (.tuple #[.int .i64 (winLow D now d pt n), .int .i64 (winHigh D d pt n)]) ∧ Below w.heap.size w w' := by
  have Dd := Lib.hid hd
  have G := Lib.hid hG
  have HD := Lib.hid hD
  have Hdv := Lib.hid hdv
  have HL := Lib.hid hl
  obtain ⟨ad, cd, rfl, hnd, hcd, -⟩ := hd.open
  obtain ⟨at_, ct, rfl, hct, hct2⟩ := hG.open
  rw [hl] at hnd ⊢
  clear hd hG hD hdv hl
  go_enter Try.func80, Try.ntmps80
  go_wp2_with fail
  obtain ⟨W, hW, A0, hs, E⟩ := one_box w #[.int .i64 now, .slice ad n cd] 43
  rw [← hW.out]
  have Dd := Lib.hid (Dd.out.ext E)
  have G := Lib.hid (G.out.ext E)
  obtain ⟨rc0, rz0⟩ := (A0).rules; have rl0 := (A0).lt
  go_wp2_with fail
  clear rc0 rz0 rl0
  go_loopg [8, 9, 10] n (fun m lo hi kk wr => ∃ k : Nat, k ≤ n ∧ m = n - k ∧ kk = .int .i64 k ∧ lo = .int .i64 (winLow D now d pt k) ∧ hi = .int .i64 (winHigh D d pt k) ∧ Below W.heap.size W wr)
  case atStart => exact ⟨0, by omega, by omega, rfl, rfl, rfl, ext_refl _⟩
  case round =>
    obtain ⟨k, hk, hgk, rfl, rfl, rfl, hb⟩ := hrel
    have A1 := A0.ext hb
    have Dr := Lib.hid (Dd.out.ext hb)
    have Gr := Lib.hid (G.out.ext hb)
    obtain ⟨rc1, rz1⟩ := (A1).rules; have rl1 := (A1).lt
    have Hk := Lib.hid hgk
    clear hgk
    obtain ⟨lo, hlo⟩ : ∃ x, Hid (x = winLow D now d pt k) := ⟨_, rfl⟩
    obtain ⟨hi, hhi⟩ : ∃ x, Hid (x = winHigh D d pt k) := ⟨_, rfl⟩
    rw [← hlo.out, ← hhi.out]
    by_cases hlk : k < n
    · obtain ⟨gx, hag, -, hg, -, cx⟩ := Dr.out.at_ (j := k) (by rw [HL.out]; exact hlk)
      subst hag
      obtain ⟨x, hx⟩ : ∃ x, Hid (x = dA d k) := ⟨_, rfl⟩
      rw [show d.getD k 0 = x from hx.out.symm] at cx
      have hxr := Hdv.out k hlk
      rw [← hx.out] at hxr
      by_cases hx1 : x = -1
      · have hxb : (x == -1) = true := by simp [hx1]
        have h1 : Hid (winLow D now d pt (k+1) = lo) := by rw [winLow_succ, if_neg (fun h => h.1 (by rw [← hx.out]; exact hx1)), hlo.out]; exact Lib.hid rfl
        have h2 : Hid (winHigh D d pt (k+1) = hi) := by rw [winHigh_succ, if_neg (fun h => h.1 (by rw [← hx.out]; exact hx1)), hhi.out]; exact Lib.hid rfl
        have Hx1 := Lib.hid hx1
        clear hx1
        go_wp2_with fail
        go_roundg (n - (k+1))
        case rel => exact ⟨k+1, by omega, rfl, by go_num, by rw [h1.out], by rw [h2.out], ext_trans hb ⟨rfl, rfl, rfl, Nat.le_refl _, fun _ _ => rfl⟩⟩
        case measure => have := Hk.out; omega
      · have hxb : (x == -1) = false := by simp [hx1]
        obtain ⟨gt, ai, ci, hag, _, hgt, _, hOi, hci, hci2, hri⟩ := Gr.out.head hpt
        subst hag
        obtain ⟨_, ak, ck, hag, _, _, _, hOk, hck, hck2, hrk⟩ := Gr.out.head hlk
        cases hag
        have e1 : (rowOf n (D pt)).length = n := rowOf_length _ _
        have e2 : (rowOf n (D k)).length = n := rowOf_length _ _
        obtain ⟨gi, hai, _, hgi, _, cy⟩ := hri.at_ (j := k) (by omega)
        subst hai
        obtain ⟨gk, hak, _, hgk, _, cz⟩ := hrk.at_ (j := pt) (by omega)
        subst hak
        rw [rowOf_getD _ _ _ hlk] at cy
        rw [rowOf_getD _ _ _ hpt] at cz
        obtain ⟨y, hy⟩ : ∃ x, Hid (x = D pt k) := ⟨_, rfl⟩
        obtain ⟨z, hz⟩ : ∃ x, Hid (x = D k pt) := ⟨_, rfl⟩
        have hyr := HD.out pt k hpt hlk
        have hzr := HD.out k pt hlk hpt
        rw [← hy.out] at cy hyr
        rw [← hz.out] at cz hzr
        clear e1 e2 hri hrk
        have h1 : Hid (winLow D now d pt (k+1) = if y < 100000 then max lo (x - y) else lo) := by
          rw [winLow_succ, ← hx.out, ← hy.out, ← hlo.out]
          by_cases h : y < 100000
          · rw [if_pos ⟨hx1, h⟩, if_pos h]; exact Lib.hid rfl
          · rw [if_neg (fun q => h q.2), if_neg h]; exact Lib.hid rfl
        have h2 : Hid (winHigh D d pt (k+1) = if z < 100000 then min hi (x + z) else hi) := by
          rw [winHigh_succ, ← hx.out, ← hz.out, ← hhi.out]
          by_cases h : z < 100000
          · rw [if_pos ⟨hx1, h⟩, if_pos h]; exact Lib.hid rfl
          · rw [if_neg (fun q => h q.2), if_neg h]; exact Lib.hid rfl
        have Hx1 := Lib.hid hx1
        clear hx1
        have hw1 : IntKind.i64.wrap (x - y) = x - y := IntWalk.i64_in _ (by omega)
        have hw2 : IntKind.i64.wrap (x + z) = x + z := IntWalk.i64_in _ (by omega)
        have fin : Hid (∀ m : Nat, k + 1 ≤ n) := Lib.hid (fun _ => hlk)
        by_cases hyf : y < 100000
        · have hyb : (decide (y < 100000)) = true := decide_eq_true hyf
          rw [if_pos hyf] at h1
          by_cases hzf : z < 100000
          · have hzb : (decide (z < 100000)) = true := decide_eq_true hzf
            rw [if_pos hzf] at h2
            by_cases hm : lo < x - y
            · rw [Int.max_eq_right (by omega)] at h1
              by_cases hm2 : hi ≤ x + z
              · rw [Int.min_eq_left hm2] at h2
                go_wp2_with fail
                go_quiet (fail)
                go_wp2_with fail
                go_quiet (fail)
                go_wp2_with fail
                go_roundg (n - (k+1))
                case rel => exact ⟨k+1, by omega, rfl, by go_num, by rw [h1.out], by rw [h2.out], ext_trans hb ⟨rfl, rfl, rfl, Nat.le_refl _, fun _ _ => rfl⟩⟩
                case measure => have := Hk.out; omega
              · rw [Int.min_eq_right (by omega)] at h2
                go_wp2_with fail
                go_quiet (fail)
                go_wp2_with fail
                go_quiet (fail)
                go_wp2_with fail
                go_roundg (n - (k+1))
                case rel => exact ⟨k+1, by omega, rfl, by go_num, by rw [h1.out], by rw [h2.out], ext_trans hb ⟨rfl, rfl, rfl, Nat.le_refl _, fun _ _ => rfl⟩⟩
                case measure => have := Hk.out; omega
            · rw [Int.max_eq_left (by omega)] at h1
              by_cases hm2 : hi ≤ x + z
              · rw [Int.min_eq_left hm2] at h2
                go_wp2_with fail
                go_quiet (fail)
                go_wp2_with fail
                go_quiet (fail)
                go_wp2_with fail
                go_roundg (n - (k+1))
                case rel => exact ⟨k+1, by omega, rfl, by go_num, by rw [h1.out], by rw [h2.out], ext_trans hb ⟨rfl, rfl, rfl, Nat.le_refl _, fun _ _ => rfl⟩⟩
                case measure => have := Hk.out; omega
              · rw [Int.min_eq_right (by omega)] at h2
                go_wp2_with fail
                go_quiet (fail)
                go_wp2_with fail
                go_quiet (fail)
                go_wp2_with fail
                go_roundg (n - (k+1))
                case rel => exact ⟨k+1, by omega, rfl, by go_num, by rw [h1.out], by rw [h2.out], ext_trans hb ⟨rfl, rfl, rfl, Nat.le_refl _, fun _ _ => rfl⟩⟩
                case measure => have := Hk.out; omega
          · have hzb : (decide (z < 100000)) = false := decide_eq_false hzf
            rw [if_neg hzf] at h2
            by_cases hm : lo < x - y
            · rw [Int.max_eq_right (by omega)] at h1
              go_wp2_with fail
              go_quiet (fail)
              go_wp2_with fail
              go_roundg (n - (k+1))
              case rel => exact ⟨k+1, by omega, rfl, by go_num, by rw [h1.out], by rw [h2.out], ext_trans hb ⟨rfl, rfl, rfl, Nat.le_refl _, fun _ _ => rfl⟩⟩
              case measure => have := Hk.out; omega
            · rw [Int.max_eq_left (by omega)] at h1
              go_wp2_with fail
              go_quiet (fail)
              go_wp2_with fail
              go_roundg (n - (k+1))
              case rel => exact ⟨k+1, by omega, rfl, by go_num, by rw [h1.out], by rw [h2.out], ext_trans hb ⟨rfl, rfl, rfl, Nat.le_refl _, fun _ _ => rfl⟩⟩
              case measure => have := Hk.out; omega
        · have hyb : (decide (y < 100000)) = false := decide_eq_false hyf
          rw [if_neg hyf] at h1
          by_cases hzf : z < 100000
          · have hzb : (decide (z < 100000)) = true := decide_eq_true hzf
            rw [if_pos hzf] at h2
            by_cases hm2 : hi ≤ x + z
            · rw [Int.min_eq_left hm2] at h2
              go_wp2_with fail
              go_quiet (fail)
              go_wp2_with fail
              go_roundg (n - (k+1))
              case rel => exact ⟨k+1, by omega, rfl, by go_num, by rw [h1.out], by rw [h2.out], ext_trans hb ⟨rfl, rfl, rfl, Nat.le_refl _, fun _ _ => rfl⟩⟩
              case measure => have := Hk.out; omega
            · rw [Int.min_eq_right (by omega)] at h2
              go_wp2_with fail
              go_quiet (fail)
              go_wp2_with fail
              go_roundg (n - (k+1))
              case rel => exact ⟨k+1, by omega, rfl, by go_num, by rw [h1.out], by rw [h2.out], ext_trans hb ⟨rfl, rfl, rfl, Nat.le_refl _, fun _ _ => rfl⟩⟩
              case measure => have := Hk.out; omega
          · have hzb : (decide (z < 100000)) = false := decide_eq_false hzf
            rw [if_neg hzf] at h2
            go_wp2_with fail
            go_roundg (n - (k+1))
            case rel => exact ⟨k+1, by omega, rfl, by go_num, by rw [h1.out], by rw [h2.out], ext_trans hb ⟨rfl, rfl, rfl, Nat.le_refl _, fun _ _ => rfl⟩⟩
            case measure => have := Hk.out; omega
    · have hkn : n = k := by omega
      subst hkn
      go_wp2_with fail
      go_ret2
      exact ⟨by rw [hlo.out, hhi.out]; rfl, ext_trans E hb⟩
def RetWin (w : World) (p : Pl) (now : Int) (d : List Int) (k : Nat) : Ending → World → Prop := fun e w' => ∃ (lo hi : Int), e = .returned (.tuple #[.int .i64 lo, .int .i64 hi, .bool (decide (dA d k = -1))]) ∧ (dA d k = -1 → lo = winLow p.clo now d k p.n ∧ hi = winHigh p.clo d k p.n) ∧ Below w.heap.size w w'
set_option maxRecDepth 100000 in
set_option maxHeartbeats 4000000 in
theorem spec_WindowOf (p : Pl) (bs dv : Value) (now : Int) (d : List Int) (k : Nat) (w : World) (hv : Bds w 0 bs p.bs) (hd : Ints w 0 dv d) (hst : p.stOk now d = true) (hk : k < p.n) :
    Calls Try.prog 47 #[.agg #[.int .i64 p.pts, bs], .agg #[.int .i64 now, dv], .int .i64 k] w (RetWin w p now d k) := by
  have V := Lib.hid hv
  have D := Lib.hid hd
  have Hst := Lib.hid hst
  obtain ⟨s1, s2, s3, s4, s5⟩ := st_in hst
  have hfo := fits_ok s1
  obtain ⟨q1, q2, q3, q4, q5⟩ := plok_in hfo.1
  have Hfit := Lib.hid s1
  have Q5 := Lib.hid q5
  obtain ⟨n, hnn⟩ : ∃ n, Hid (n = p.n) := ⟨_, rfl⟩
  have Hl : Hid (d.length = n) := by rw [hnn.out]; exact Lib.hid s2
  have Hp : Hid (p.pts = (n : Int)) := by rw [hnn.out]; exact Lib.hid q1
  rw [← hnn.out] at q2 q3 hk
  obtain ⟨a, c, rfl, hn, hc, -⟩ := hv.open
  obtain ⟨ad, cd, rfl, hnd, hcd, -⟩ := hd.open
  rw [Hl.out] at hnd
  have hbl16 := q4
  clear hv hd hst s1 s2 s3 s4 s5 hfo q1 q4 q5
  go_enter Try.func47, Try.ntmps47
  go_wp2_with fail
  rw [Hl.out]
  obtain ⟨W, hW, A0, B0, hs, E⟩ := two_boxes w #[.int .i64 p.pts, .slice a p.bs.length c] #[.int .i64 now, .slice ad n cd] 25 43
  rw [← hW.out]
  obtain ⟨rc0, rz0⟩ := (A0).rules; have rl0 := (A0).lt
  obtain ⟨rc1, rz1⟩ := (B0).rules; have rl1 := (B0).lt
  go_wp2_with fail
  refine (spec_StateOk p _ _ now d _ (V.out.ext E) (show Ints W 0 (.slice ad n cd) d by rw [← Hl.out]; exact D.out.ext E)).mono ?_
  rintro e w1 ⟨rfl, hb1⟩
  rw [Hst.out]
  clear rc0 rz0 rl0 rc1 rz1 rl1
  have A0 := A0.ext hb1
  have B0 := B0.ext hb1
  have E := ext_trans E hb1
  rw [Hp.out] at A0 ⊢
  obtain ⟨rc0, rz0⟩ := (A0).rules; have rl0 := (A0).lt
  obtain ⟨rc1, rz1⟩ := (B0).rules; have rl1 := (B0).lt
  go_wp2_with fail
  refine (spec_l1In k 0 _ _).mono ?_
  rintro e w2 ⟨rfl, rfl⟩
  have hi : inB (k : Int) 0 ((n : Int) - 1) = true := (inB_iff _ _ _).2 (by omega)
  rw [hi]
  obtain ⟨g, hag, -, hg, -, cx⟩ := (D.out.ext E).at_ (j := k) (by rw [Hl.out]; exact hk)
  subst hag
  obtain ⟨x, hx⟩ : ∃ x, Hid (x = dA d k) := ⟨_, rfl⟩
  rw [show d.getD k 0 = x from hx.out.symm] at cx
  by_cases hx1 : ¬ x = -1
  · have hxb : (x != -1) = true := by simp [hx1]
    have Hx1 : Hid (¬ dA d k = -1) := by rw [← hx.out]; exact Lib.hid hx1
    clear hx1
    go_wp2_with fail
    refine bodyPost_ret (v := .tuple #[.int .i64 0, .int .i64 0, .bool false]) (by simp [results, Try.results47, go_sem, *]) rfl ?_
    exact ⟨0, 0, by rw [decide_eq_false Hx1.out], fun h => absurd h Hx1.out, E⟩
  have hx1 := Decidable.not_not.1 hx1
  have hxb : (x != -1) = false := by simp [hx1]
  have Hx1 : Hid (dA d k = -1) := by rw [← hx.out]; exact Lib.hid hx1
  have Hx2 := Lib.hid hx1
  clear hx1
  go_wp2_with fail
  refine wp_region_held_drew (S := fun w' => w'.cell? ⟨w.heap.size, 0, none⟩ = some (.int .i64 n) ∧ w'.cell? ⟨w.heap.size, 1, none⟩ = some (.slice a p.bs.length c) ∧ w'.cell? ⟨w.heap.size + 1, 0, none⟩ = some (.int .i64 now) ∧ w'.cell? ⟨w.heap.size + 1, 1, none⟩ = some (.slice (some ⟨g, 0, none⟩) n cd)) (by kernel_rfl) ?_ (fun hHeld => ?_)
  · exact ⟨A0.cell0 rfl, A0.cell0 rfl, B0.cell0 rfl, B0.cell0 rfl⟩
  obtain ⟨dw, hdw⟩ : ∃ d', Hid (d' = w1.drew) := ⟨_, rfl⟩
  have Ed : Below w1.heap.size w1 dw := by rw [hdw.out]; exact ext_drew (ext_refl _)
  rw [← hdw.out] at hHeld ⊢
  clear rc0 rz0 rl0 rc1 rz1 rl1 cx
  have A0 := A0.ext Ed
  have B0 := B0.ext Ed
  have E := ext_trans E Ed
  try simp only [Act.put, List.setIfInBounds_toArray, List.set_cons_zero, List.set_cons_succ]
  refine wpAnyH_take (i := 0) (v := ?_) rfl (by kernel_rfl) (by kernel_rfl) (by kernel_rfl) (fun _ _ _ h => h) (Or.inl ⟨by rfl, fun w' hS' => ?_⟩) (by assumption) ?_
  rotate_left
  · (try dsimp only at hS'); go_simp; (try rw [if_pos (by omega)]); try with_reducible rfl
  try simp only [Act.put, List.getElem_toArray, List.getElem_cons_zero, List.getElem_cons_succ, List.setIfInBounds_toArray, List.set_cons_zero, List.set_cons_succ]
  refine wpAnyH_take (i := 2) (v := ?_) rfl (by kernel_rfl) (by kernel_rfl) (by kernel_rfl) (fun _ _ _ h => h) (Or.inl ⟨by rfl, fun w' hS' => ?_⟩) (by assumption) ?_
  rotate_left
  · (try dsimp only at hS'); go_simp; (try rw [if_pos (by omega)]); try with_reducible rfl
  try simp only [Act.put, List.getElem_toArray, List.getElem_cons_zero, List.getElem_cons_succ, List.setIfInBounds_toArray, List.set_cons_zero, List.set_cons_succ]
  refine wpAnyH_take (i := 3) (v := ?_) rfl (by kernel_rfl) (by kernel_rfl) (by kernel_rfl) (fun _ _ _ h => h) (Or.inl ⟨by rfl, fun w' hS' => ?_⟩) (by assumption) ?_
  rotate_left
  · (try dsimp only at hS'); go_simp; (try rw [if_pos (by omega)]); try with_reducible rfl
  try simp only [Act.put, List.getElem_toArray, List.getElem_cons_zero, List.getElem_cons_succ, List.setIfInBounds_toArray, List.set_cons_zero, List.set_cons_succ]
  refine wpAnyH_ready (rs := [1]) (by kernel_rfl) (by simp) ?_
  refine AllReadyH.cons rfl (fun K' hK => ?_) AllReadyH.nil
  refine if_yes (by rfl) ?_
  try simp only [Act.put, List.getElem_toArray, List.getElem_cons_zero, List.getElem_cons_succ, List.setIfInBounds_toArray, List.set_cons_zero, List.set_cons_succ]
  go_simp
  refine (spec_l2Closed n _ p.bs _ (V.out.ext E) q3 (show BdsIn n (-2000) 2000 p.bs by rw [hnn.out]; exact Q5.out.wide (by decide) (by decide)) (by omega)).mono ?_
  rintro e w3 ⟨vt, ht, rfl, hG, hb3⟩
  have G : Hid (TabG w3 0 n n vt ht p.clo) := by rw [hnn.out] at hG ⊢; exact Lib.hid (hG.base (Nat.zero_le _))
  clear hG
  have A0 := A0.ext hb3
  have B0 := B0.ext hb3
  have E := ext_trans E hb3
  go_wp2_with fail
  refine hK.out _ _ ?_ (fun hHeld => ?_)
  · exact ⟨A0.cell0 rfl, A0.cell0 rfl, B0.cell0 rfl, B0.cell0 rfl⟩
  clear hK K'
  try simp only [Act.put, List.getElem_toArray, List.getElem_cons_zero, List.getElem_cons_succ, List.setIfInBounds_toArray, List.set_cons_zero, List.set_cons_succ]
  refine wpAnyH_ready (rs := [4]) (by kernel_rfl) (by simp) ?_
  refine AllReadyH.cons rfl (fun K' hK => ?_) AllReadyH.nil
  refine if_yes (by rfl) ?_
  try simp only [Act.put, List.getElem_toArray, List.getElem_cons_zero, List.getElem_cons_succ, List.setIfInBounds_toArray, List.set_cons_zero, List.set_cons_succ]
  go_simp
  refine (spec_l6Window n now d p.clo _ vt ht k _ (show Ints w3 0 (.slice (some ⟨g, 0, none⟩) n cd) d by rw [← Hl.out]; exact D.out.ext E) Hl.out G.out hk q3 (by rw [hnn.out]; exact (st_table Hst.out).1) (by rw [hnn.out]; exact (st_table Hst.out).2)).mono ?_
  rintro e w4 ⟨rfl, hb4⟩
  have A0 := A0.ext hb4
  have B0 := B0.ext hb4
  have E := ext_trans E hb4
  go_wp2_with fail
  refine hK.out _ _ ?_ (fun hHeld => ?_)
  · exact ⟨A0.cell0 rfl, A0.cell0 rfl, B0.cell0 rfl, B0.cell0 rfl⟩
  clear hK K'
  try simp only [Act.put, List.getElem_toArray, List.getElem_cons_zero, List.getElem_cons_succ, List.setIfInBounds_toArray, List.set_cons_zero, List.set_cons_succ]
  refine wpAnyH_take (i := 5) (v := ?_) rfl (by kernel_rfl) (by kernel_rfl) (by kernel_rfl) (fun _ _ _ h => h) (Or.inl ⟨by rfl, fun w' hS' => ?_⟩) (by assumption) ?_
  rotate_left
  · (try dsimp only at hS'); go_simp; (try rw [if_pos (by omega)]); try with_reducible rfl
  try simp only [Act.put, List.getElem_toArray, List.getElem_cons_zero, List.getElem_cons_succ, List.setIfInBounds_toArray, List.set_cons_zero, List.set_cons_succ]
  refine wpAnyH_take (i := 6) (v := ?_) rfl (by kernel_rfl) (by kernel_rfl) (by kernel_rfl) (fun _ _ _ h => h) (Or.inl ⟨by rfl, fun w' hS' => ?_⟩) (by assumption) ?_
  rotate_left
  · (try dsimp only at hS'); go_simp; (try rw [if_pos (by omega)]); try with_reducible rfl
  try simp only [Act.put, List.getElem_toArray, List.getElem_cons_zero, List.getElem_cons_succ, List.setIfInBounds_toArray, List.set_cons_zero, List.set_cons_succ]
  refine wpAnyH_take (i := 7) (v := ?_) rfl (by kernel_rfl) (by kernel_rfl) (by kernel_rfl) (fun _ _ _ h => h) (Or.inl ⟨by rfl, fun w' hS' => ?_⟩) (by assumption) ?_
  rotate_left
  · (try dsimp only at hS'); go_simp; (try rw [if_pos (by omega)]); try with_reducible rfl
  try simp only [Act.put, List.getElem_toArray, List.getElem_cons_zero, List.getElem_cons_succ, List.setIfInBounds_toArray, List.set_cons_zero, List.set_cons_succ]
  refine wpAnyH_take (i := 8) (v := ?_) rfl (by kernel_rfl) (by kernel_rfl) (by kernel_rfl) (fun _ _ _ h => h) (Or.inl ⟨by rfl, fun w' hS' => ?_⟩) (by assumption) ?_
  rotate_left
  · (try dsimp only at hS'); go_simp; (try rw [if_pos (by omega)]); try with_reducible rfl
  try simp only [Act.put, List.getElem_toArray, List.getElem_cons_zero, List.getElem_cons_succ, List.setIfInBounds_toArray, List.set_cons_zero, List.set_cons_succ]
  refine wpAnyH_take (i := 9) (v := ?_) rfl (by kernel_rfl) (by kernel_rfl) (by kernel_rfl) (fun _ _ _ h => h) (Or.inl ⟨by rfl, fun w' hS' => ?_⟩) (by assumption) ?_
  rotate_left
  · (try dsimp only at hS'); go_simp; (try rw [if_pos (by omega)]); try with_reducible rfl
  try simp only [Act.put, List.getElem_toArray, List.getElem_cons_zero, List.getElem_cons_succ, List.setIfInBounds_toArray, List.set_cons_zero, List.set_cons_succ]
  refine wpAnyH_done (by kernel_rfl) ?_ _
  try simp only [Act.put, List.setIfInBounds_toArray, List.set_cons_zero, List.set_cons_succ]
  go_wp2_with fail
  refine bodyPost_ret (v := .tuple #[.int .i64 (winLow p.clo now d k n), .int .i64 (winHigh p.clo d k n), .bool true]) (by simp [results, Try.results47, go_sem, *]) rfl ?_
  exact ⟨_, _, by rw [decide_eq_true Hx1.out], fun _ => by rw [hnn.out]; exact ⟨rfl, rfl⟩, E⟩
end Go.Proofs.Ytffcfambgcaikaa
