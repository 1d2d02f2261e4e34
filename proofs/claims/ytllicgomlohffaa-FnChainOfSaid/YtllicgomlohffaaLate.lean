/- The walks of the latest begins: impl.LateOf and spec.l9Late, spec.LateOf. Conditions: the numbers can be read; of l9Late: the project is one. -/
import Derived.Test.YtllicgomlohffaaLateM
namespace Go.Proofs.Ytllicgomlohffaa
open Go.RowKit
set_option linter.unusedVariables false
set_option linter.unusedSimpArgs false
theorem Ints.cellI {w : World} {base n cap gb : Nat} {l : List Int} (h : Ints w base (.slice (some ⟨gb, 0, none⟩) n cap) l) {j : Nat} (hj : j < l.length) : w.cell? ⟨gb, j, none⟩ = some (.int .i64 (l.getD j 0)) := by
  obtain ⟨g, he, _, _, _, hc⟩ := h.at_ hj
  cases he
  exact hc
set_option maxRecDepth 100000 in
set_option maxHeartbeats 8000000 in
theorem spec_l9Late (p : Pj) (v1 v2 : Value) (w : World) (h1 : Ints w 0 v1 p.lo) (h2 : Ints w 0 v2 p.af) (hok : p.ok = true) :
    Calls Try.prog 58 #[.agg #[v1, v2]] w (RetInts w p.late) := by
  have H1 := Lib.hid h1; have H2 := Lib.hid h2; have Hok := Lib.hid hok
  obtain ⟨a1, c1, rfl, hn1, hc1, -⟩ := h1.open
  obtain ⟨a2, c2, rfl, hn2, hc2, -⟩ := h2.open
  obtain ⟨hl6, haf, hLs, hAs⟩ := ok_upto hok
  have HLs := Lib.hid hLs; have HAs := Lib.hid hAs
  have hlen := len_in hok
  have Hlate := Lib.hid (late_in hok)
  obtain ⟨n, hn⟩ : ∃ n, Hid (n = p.lo.length) := ⟨_, rfl⟩
  have haf2 : Hid (p.af.length = n) := by rw [hn.out]; exact haf
  have Hfall : Hid (∀ j m, j < n → m ≤ n → 0 ≤ fall p.A (tOf p) p.len n j m ∧ fall p.A (tOf p) p.len n j m ≤ 140) := fun j m hj hm =>
    ⟨fall_pos hlen.1 (fun i hi => (Hlate.out i (by rw [← hn.out]; exact hi)).1) m hm, by have := fall_top p.A (tOf p) p.len n j m; omega⟩
  have Hfe : Hid (∀ j m, j < n → m ≤ n → n - m ≤ j + 1 → fall p.A (tOf p) p.len n j m = tOf p j + p.L j) := fun j m hj hm h => by
    have hL := late_is p
    rw [← hn.out] at hL
    exact fall_eq hL hj hm h
  rw [← hn.out] at hl6 hn1 ⊢
  clear h1 h2 hok haf hLs hAs
  go_enter Try.func58, Try.ntmps58
  go_wp2_with fail
  obtain ⟨W, hW, A0, T0, hs, E⟩ := two_boxes w #[.slice a1 n c1, .slice a2 p.af.length c2] #[] 27 3
  rw [← hW.out]
  have R := Lib.hid (Ints.ofBox T0 (Nat.le_refl _))
  clear T0
  go_loopg [4, 5] n (fun m v kk wr => ∃ (k : Nat), k ≤ n ∧ m = n - k ∧ kk = .int .i64 k ∧ Hid (Ints wr (w.heap.size + 1) v (List.replicate k p.len)) ∧
    Box wr w.heap.size 27 #[.slice a1 n c1, .slice a2 p.af.length c2] ∧ Below w.heap.size w wr ∧ w.heap.size + 2 ≤ wr.heap.size)
  case atStart => exact ⟨0, by omega, by omega, rfl, R, A0, E, hs⟩
  case round =>
    clear R A0 E
    obtain ⟨k, hk, hgk, rfl, R, A0, E, hsz⟩ := hrel
    have Hk := Lib.hid hgk
    clear hgk
    obtain ⟨av, cv, rfl, -⟩ := R.out.open
    rw [List.length_replicate] at R ⊢
    obtain ⟨rc0, rz0⟩ := (A0).rules; have rl0 := (A0).lt
    by_cases hlt : k < n
    · go_wp2_with fail
      refine (spec_l9Length p (.slice a1 n c1) (.slice a2 p.af.length c2) _ (by have := H1.out.ext E; rw [hn.out]; exact this) (H2.out.ext E) Hok.out).mono ?_
      rintro e w3 ⟨rfl, hb3⟩
      have R := Lib.hid (R.out.ext hb3)
      have A0 := A0.ext hb3
      have E := ext_trans E hb3
      have q3 := hb3.size
      clear hb3 rc0 rz0 rl0
      obtain ⟨ln, hln⟩ : ∃ x, Hid (x = p.len) := ⟨_, rfl⟩
      rw [← hln.out] at R ⊢
      go_wp2_with (at_builtin; refine wpl_appI _ rfl (.tmp 19) (.tmp 22) rfl (w.heap.size + 1) _ (.slice av k cv) (List.replicate k ln) rfl (R.out.alloc _) _ [ln] rfl (Ints.lit _ _) (by simp; omega) (by simp; omega) ?_; intro v' w5 hv' hg')
      have hz := hg'.size
      simp only [World.size_alloc] at hz
      have lt := R.out.lt
      have A1 := (A0.alloc (.cells #[.int .i64 ln] 3)).grown hg' (fun e => by have := lt _ e.symm; omega)
      have E1 := ext_grown (ext_alloc E (.cells #[.int .i64 ln] 3)) hg' (fun q hq => by have := lt q hq; omega)
      go_roundg (n - (k+1))
      case rel => exact ⟨k+1, by omega, rfl, by go_num, by rw [List.replicate_succ', ← hln.out]; exact Lib.hid hv', A1, E1, by omega⟩
      case measure => have := Hk.out; omega
    · have hkn : n = k := by omega
      subst hkn
      rw [← endsRow_start] at R
      clear rc0 rz0 rl0
      go_wp2_with fail
      go_loopg [6] n (fun z kk wx => ∃ (m : Nat), m ≤ n ∧ z = n - m ∧ kk = .int .i64 ((n : Int) - 1 - m) ∧ Hid (Ints wx (w.heap.size + 1) (.slice av n cv) (endsRow p n m 0)) ∧
        Box wx w.heap.size 27 #[.slice a1 n c1, .slice a2 p.af.length c2] ∧ Below w.heap.size w wx)
      case atStart => exact ⟨0, by omega, by omega, by simp, R, A0, E⟩
      case round =>
        clear R A0 E
        rename World => wx
        obtain ⟨m, hm, hgk, rfl, R, A0, E⟩ := hrel
        have Hm := Lib.hid hgk
        clear hgk
        obtain ⟨rc0, rz0⟩ := (A0).rules; have rl0 := (A0).lt
        by_cases hlm : m < n
        · obtain ⟨i, hi⟩ : ∃ i, i = n - (m+1) := ⟨_, rfl⟩
          have hin : i < n := by omega
          rw [show (n : Int) - 1 - m = (i : Int) by omega]
          have Hii := Lib.hid hi
          clear hi
          have hmi : n - m = i + 1 := by have := Hii.out; omega
          have Hmi := Lib.hid hmi
          clear hmi
          go_wp2_with fail
          go_loopg [7] i (fun z kk wy => ∃ (q : Nat), q ≤ i ∧ z = i - q ∧ kk = .int .i64 q ∧ Hid (Ints wy (w.heap.size + 1) (.slice av n cv) (endsRow p n m q)) ∧
            Box wy w.heap.size 27 #[.slice a1 n c1, .slice a2 p.af.length c2] ∧ Below w.heap.size w wy)
          case atStart => exact ⟨0, by omega, by omega, rfl, R, A0, E⟩
          case round =>
            clear R A0 E rc0 rz0 rl0
            rename World => wy
            obtain ⟨q, hq, hgk, rfl, R, A0, E⟩ := hrel
            have Hq := Lib.hid hgk
            clear hgk
            obtain ⟨rc0, rz0⟩ := (A0).rules; have rl0 := (A0).lt
            by_cases hlq : q < i
            · have hka : i < p.af.length := by have := haf2.out; omega
              obtain ⟨g2, ha2, _, hg2, _, cA⟩ := (H2.out.ext E).at_ hka
              subst ha2
              obtain ⟨z, Hz⟩ : ∃ z, Hid (z = p.A i) := ⟨_, rfl⟩
              rw [show p.af.getD i 0 = z from Hz.out.symm] at cA
              have hz := HAs.out i (by rw [← hn.out]; exact hin)
              have hz0 : 0 ≤ z := by rw [Hz.out]; exact hz.1
              have hz1 : z ≤ 64 := by have := two_pow_in i (by omega); rw [Hz.out]; omega
              clear hz
              have hd := div_pow_le z q hz0 (by omega)
              cases hb : bit z q
              · have he : (z / 2 ^ q % 2 == 1) = false := hb
                have Hb := Lib.hid hb
                clear hb
                go_wp2_with fail
                go_roundg (i - (q+1))
                case rel =>
                  refine ⟨q+1, by omega, rfl, by go_num, ?_, A0, E⟩
                  rw [endsRow_skip p n m q (by rw [← Hii.out, ← Hz.out]; exact Hb.out)]
                  exact R
                case measure => have := Hq.out; omega
              · have he : (z / 2 ^ q % 2 == 1) = true := hb
                have Hb := Lib.hid hb
                clear hb
                have hel := endsRow_length p n m q
                obtain ⟨ge, hae, hge1, hge, hfz, cq⟩ := R.out.at_ (j := q) (by omega)
                subst hae
                obtain ⟨_, hae, _, _, _, ci⟩ := R.out.at_ (j := i) (by omega)
                cases hae
                have hin2 : i < p.lo.length := by rw [← hn.out]; exact hin
                obtain ⟨g1, ha1, _, hg1, _, cy⟩ := (H1.out.ext E).at_ hin2
                subst ha1
                rw [endsRow_at p n m q q (by omega), if_neg (Nat.lt_irrefl _)] at cq
                rw [endsRow_at p n m q i hin, if_neg (by omega), Hfe.out i m hin hm (by have := Hmi.out; omega)] at ci
                have hx := Hfall.out q m (by omega) hm
                have hy := HLs.out i hin2
                have hu := Hlate.out i hin2
                obtain ⟨x, Hx⟩ : ∃ x, Hid (x = fall p.A (tOf p) p.len n q m) := ⟨_, rfl⟩
                obtain ⟨y, Hy⟩ : ∃ y, Hid (y = p.L i) := ⟨_, rfl⟩
                obtain ⟨u, Hu⟩ : ∃ u, Hid (u = tOf p i + p.L i) := ⟨_, rfl⟩
                rw [← Hx.out] at cq hx
                rw [← Hu.out] at ci hu
                rw [show p.lo.getD i 0 = y from Hy.out.symm] at cy
                rw [← Hy.out] at hy
                have hu0 : 0 ≤ u - y := by have := Hlate.out i hin2; have := Hu.out; have := Hy.out; omega
                clear hel hin2
                have hw : IntKind.i64.wrap (u - y) = u - y := IntWalk.i64_in _ (by omega)
                go_wp2_with fail
                by_cases hmx : x ≤ u - y
                · refine wp_region_tail 18 (by kernel_rfl) (by kernel_rfl) (fun w' => w'.cell? ⟨w.heap.size, 0, none⟩ = some (.slice (some ⟨g1, 0, none⟩) n c1) ∧ w'.cell? ⟨ge, q, none⟩ = some (.int .i64 x) ∧ w'.cell? ⟨ge, i, none⟩ = some (.int .i64 u) ∧ w'.cell? ⟨g1, i, none⟩ = some (.int .i64 y)) ?_ ?_
                  · exact ⟨A0.cell0 rfl, cq, ci, cy⟩
                  intro hHeld
                  simp only [List.pop_toArray, List.dropLast]
                  refine wpAnyH_take (i := 0) (v := ?_) rfl (by kernel_rfl) (by kernel_rfl) (by kernel_rfl) (fun _ _ _ h => h) (Or.inl ⟨by rfl, fun w' hS' => ?_⟩) (by assumption) ?_
                  rotate_left
                  · (try dsimp only at hS'); go_simp; (try rw [if_pos (by omega)]); try with_reducible rfl
                  try simp only [Act.put, List.getElem_toArray, List.getElem_cons_zero, List.getElem_cons_succ, List.setIfInBounds_toArray, List.set_cons_zero, List.set_cons_succ]
                  refine wpAnyH_take (i := 1) (v := ?_) rfl (by kernel_rfl) (by kernel_rfl) (by kernel_rfl) (fun _ _ _ h => h) (Or.inl ⟨by rfl, fun w' hS' => ?_⟩) (by assumption) ?_
                  rotate_left
                  · (try dsimp only at hS'); go_simp; (try rw [if_pos (by omega)]); try with_reducible rfl
                  try simp only [Act.put, List.getElem_toArray, List.getElem_cons_zero, List.getElem_cons_succ, List.setIfInBounds_toArray, List.set_cons_zero, List.set_cons_succ]
                  refine wpAnyH_take (i := 2) (v := ?_) rfl (by kernel_rfl) (by kernel_rfl) (by kernel_rfl) (fun _ _ _ h => h) (Or.inl ⟨by rfl, fun w' hS' => ?_⟩) (by assumption) ?_
                  rotate_left
                  · (try dsimp only at hS'); go_simp; (try rw [if_pos (by omega)]); try with_reducible rfl
                  try simp only [Act.put, List.getElem_toArray, List.getElem_cons_zero, List.getElem_cons_succ, List.setIfInBounds_toArray, List.set_cons_zero, List.set_cons_succ]
                  refine wpAnyH_take (i := 3) (v := ?_) rfl (by kernel_rfl) (by kernel_rfl) (by kernel_rfl) (fun _ _ _ h => h) (Or.inl ⟨by rfl, fun w' hS' => ?_⟩) (by assumption) ?_
                  rotate_left
                  · (try dsimp only at hS'); go_simp; (try rw [if_pos (by omega)]); try with_reducible rfl
                  try simp only [Act.put, List.getElem_toArray, List.getElem_cons_zero, List.getElem_cons_succ, List.setIfInBounds_toArray, List.set_cons_zero, List.set_cons_succ]
                  refine wpAnyH_take (i := 4) (v := ?_) rfl (by kernel_rfl) (by kernel_rfl) (by kernel_rfl) (fun _ _ _ h => h) (Or.inl ⟨by rfl, fun w' hS' => ?_⟩) (by assumption) ?_
                  rotate_left
                  · (try dsimp only at hS'); go_simp; (try rw [if_pos (by omega)]); try with_reducible rfl
                  try simp only [Act.put, List.getElem_toArray, List.getElem_cons_zero, List.getElem_cons_succ, List.setIfInBounds_toArray, List.set_cons_zero, List.set_cons_succ]
                  refine wpAnyH_take (i := 5) (v := ?_) rfl (by kernel_rfl) (by kernel_rfl) (by kernel_rfl) (fun _ _ _ h => h) (Or.inl ⟨by rfl, fun w' hS' => ?_⟩) (by assumption) ?_
                  rotate_left
                  · (try dsimp only at hS'); go_simp; (try rw [if_pos (by omega)]); try with_reducible rfl
                  try simp only [Act.put, List.getElem_toArray, List.getElem_cons_zero, List.getElem_cons_succ, List.setIfInBounds_toArray, List.set_cons_zero, List.set_cons_succ]
                  refine wpAnyH_take (i := 6) (v := ?_) rfl (by kernel_rfl) (by kernel_rfl) (by kernel_rfl) (fun _ _ _ h => h) (Or.inl ⟨by rfl, fun w' hS' => ?_⟩) (by assumption) ?_
                  rotate_left
                  · (try dsimp only at hS'); go_simp; (try rw [if_pos (by omega)]); try with_reducible rfl
                  try simp only [Act.put, List.getElem_toArray, List.getElem_cons_zero, List.getElem_cons_succ, List.setIfInBounds_toArray, List.set_cons_zero, List.set_cons_succ]
                  refine wpAnyH_take (i := 7) (v := ?_) rfl (by kernel_rfl) (by kernel_rfl) (by kernel_rfl) (fun _ _ _ h => h) (Or.inl ⟨by rfl, fun w' hS' => ?_⟩) (by assumption) ?_
                  rotate_left
                  · (try dsimp only at hS'); go_simp; (try rw [if_pos (by omega)]); try with_reducible rfl
                  try simp only [Act.put, List.getElem_toArray, List.getElem_cons_zero, List.getElem_cons_succ, List.setIfInBounds_toArray, List.set_cons_zero, List.set_cons_succ]
                  refine wpAnyH_take (i := 8) (v := ?_) rfl (by kernel_rfl) (by kernel_rfl) (by kernel_rfl) (fun _ _ _ h => h) (Or.inl ⟨by rfl, fun w' hS' => ?_⟩) (by assumption) ?_
                  rotate_left
                  · (try dsimp only at hS'); go_simp; (try rw [if_pos (by omega)]); try with_reducible rfl
                  try simp only [Act.put, List.getElem_toArray, List.getElem_cons_zero, List.getElem_cons_succ, List.setIfInBounds_toArray, List.set_cons_zero, List.set_cons_succ]
                  refine wpAnyH_take (i := 9) (v := ?_) rfl (by kernel_rfl) (by kernel_rfl) (by kernel_rfl) (fun _ _ _ h => h) (Or.inl ⟨by rfl, fun w' hS' => ?_⟩) (by assumption) ?_
                  rotate_left
                  · (try dsimp only at hS'); go_simp; (try rw [if_pos (by omega)]); try with_reducible rfl
                  try simp only [Act.put, List.getElem_toArray, List.getElem_cons_zero, List.getElem_cons_succ, List.setIfInBounds_toArray, List.set_cons_zero, List.set_cons_succ]
                  refine wpAnyH_take (i := 10) (v := ?_) rfl (by kernel_rfl) (by kernel_rfl) (by kernel_rfl) (fun _ _ _ h => h) (Or.inl ⟨by rfl, fun w' hS' => ?_⟩) (by assumption) ?_
                  rotate_left
                  · (try dsimp only at hS'); go_simp; (try rw [if_pos (by omega)]); try with_reducible rfl
                  try simp only [Act.put, List.getElem_toArray, List.getElem_cons_zero, List.getElem_cons_succ, List.setIfInBounds_toArray, List.set_cons_zero, List.set_cons_succ]
                  refine wpAnyH_take (i := 11) (v := ?_) rfl (by kernel_rfl) (by kernel_rfl) (by kernel_rfl) (fun _ _ _ h => h) (Or.inl ⟨by rfl, fun w' hS' => ?_⟩) (by assumption) ?_
                  rotate_left
                  · (try dsimp only at hS'); go_simp; (try rw [if_pos (by omega)]); try with_reducible rfl
                  try simp only [Act.put, List.getElem_toArray, List.getElem_cons_zero, List.getElem_cons_succ, List.setIfInBounds_toArray, List.set_cons_zero, List.set_cons_succ]
                  refine wpAnyH_take (i := 12) (v := ?_) rfl (by kernel_rfl) (by kernel_rfl) (by kernel_rfl) (fun _ _ _ h => h) (Or.inl ⟨by rfl, fun w' hS' => ?_⟩) (by assumption) ?_
                  rotate_left
                  · (try dsimp only at hS'); go_simp; (try rw [if_pos (by omega)]); try with_reducible rfl
                  try simp only [Act.put, List.getElem_toArray, List.getElem_cons_zero, List.getElem_cons_succ, List.setIfInBounds_toArray, List.set_cons_zero, List.set_cons_succ]
                  refine wpAnyH_take (i := 13) (v := ?_) rfl (by kernel_rfl) (by kernel_rfl) (by kernel_rfl) (fun _ _ _ h => h) (Or.inl ⟨by rfl, fun w' hS' => ?_⟩) (by assumption) ?_
                  rotate_left
                  · (try dsimp only at hS'); go_simp; (try rw [if_pos (by omega)]); try with_reducible rfl
                  try simp only [Act.put, List.getElem_toArray, List.getElem_cons_zero, List.getElem_cons_succ, List.setIfInBounds_toArray, List.set_cons_zero, List.set_cons_succ]
                  refine wpAnyH_take (i := 14) (v := ?_) rfl (by kernel_rfl) (by kernel_rfl) (by kernel_rfl) (fun _ _ _ h => h) (Or.inl ⟨by rfl, fun w' hS' => ?_⟩) (by assumption) ?_
                  rotate_left
                  · (try dsimp only at hS'); go_simp; (try rw [if_pos (by omega)]); try with_reducible rfl
                  try simp only [Act.put, List.getElem_toArray, List.getElem_cons_zero, List.getElem_cons_succ, List.setIfInBounds_toArray, List.set_cons_zero, List.set_cons_succ]
                  refine wpAnyH_take (i := 15) (v := ?_) rfl (by kernel_rfl) (by kernel_rfl) (by kernel_rfl) (fun _ _ _ h => h) (Or.inl ⟨by rfl, fun w' hS' => ?_⟩) (by assumption) ?_
                  rotate_left
                  · (try dsimp only at hS'); go_simp; (try rw [if_pos (by omega)]); try with_reducible rfl
                  try simp only [Act.put, List.getElem_toArray, List.getElem_cons_zero, List.getElem_cons_succ, List.setIfInBounds_toArray, List.set_cons_zero, List.set_cons_succ]
                  refine wpAnyH_take (i := 16) (v := ?_) rfl (by kernel_rfl) (by kernel_rfl) (by kernel_rfl) (fun _ _ _ h => h) (Or.inl ⟨by rfl, fun w' hS' => ?_⟩) (by assumption) ?_
                  rotate_left
                  · (try dsimp only at hS'); go_simp; (try rw [if_pos (by omega)]); try with_reducible rfl
                  try simp only [Act.put, List.getElem_toArray, List.getElem_cons_zero, List.getElem_cons_succ, List.setIfInBounds_toArray, List.set_cons_zero, List.set_cons_succ]
                  refine wpAnyH_take (i := 17) (v := ?_) rfl (by kernel_rfl) (by kernel_rfl) (by kernel_rfl) (fun _ _ _ h => h) (Or.inl ⟨by rfl, fun w' hS' => ?_⟩) (by assumption) ?_
                  rotate_left
                  · (try dsimp only at hS'); go_simp; (try rw [if_pos (by omega)]); try with_reducible rfl
                  try simp only [Act.put, List.getElem_toArray, List.getElem_cons_zero, List.getElem_cons_succ, List.setIfInBounds_toArray, List.set_cons_zero, List.set_cons_succ]
                  refine wpAnyH_done (by kernel_rfl) ?_ _
                  refine tail_step rfl (fun K' hK => ?_)
                  refine if_yes (by rfl) ?_
                  try simp only [Act.put, List.getElem_toArray, List.getElem_cons_zero, List.getElem_cons_succ, List.setIfInBounds_toArray, List.set_cons_zero, List.set_cons_succ]
                  go_simp
                  refine hK _ _ ?_
                  clear hK K'
                  try simp only [Act.put, List.getElem_toArray, List.getElem_cons_zero, List.getElem_cons_succ, List.setIfInBounds_toArray, List.set_cons_zero, List.set_cons_succ]
                  go_wp2_with fail
                  go_roundg (i - (q+1))
                  case rel =>
                    refine ⟨q+1, by omega, rfl, by go_num, ?_, (A0.far (by dsimp only; omega) _).drew, ext_drew (ext_set E (by dsimp only; omega) _)⟩
                    have hb2 : bit (p.A (n - (m+1))) q = true := by rw [← Hii.out, ← Hz.out]; exact Hb.out
                    rw [← endsRow_next p n m q (by have := Hii.out; omega) hb2, ← Hii.out, ← Hx.out, show tOf p i = u - y by have := Hu.out; have := Hy.out; omega, Int.min_eq_left hmx]
                    exact Lib.hid (R.out.set q x).drew
                  case measure => have := Hq.out; omega
                · refine wp_region_tail 18 (by kernel_rfl) (by kernel_rfl) (fun w' => w'.cell? ⟨w.heap.size, 0, none⟩ = some (.slice (some ⟨g1, 0, none⟩) n c1) ∧ w'.cell? ⟨ge, q, none⟩ = some (.int .i64 x) ∧ w'.cell? ⟨ge, i, none⟩ = some (.int .i64 u) ∧ w'.cell? ⟨g1, i, none⟩ = some (.int .i64 y)) ?_ ?_
                  · exact ⟨A0.cell0 rfl, cq, ci, cy⟩
                  intro hHeld
                  simp only [List.pop_toArray, List.dropLast]
                  refine wpAnyH_take (i := 0) (v := ?_) rfl (by kernel_rfl) (by kernel_rfl) (by kernel_rfl) (fun _ _ _ h => h) (Or.inl ⟨by rfl, fun w' hS' => ?_⟩) (by assumption) ?_
                  rotate_left
                  · (try dsimp only at hS'); go_simp; (try rw [if_pos (by omega)]); try with_reducible rfl
                  try simp only [Act.put, List.getElem_toArray, List.getElem_cons_zero, List.getElem_cons_succ, List.setIfInBounds_toArray, List.set_cons_zero, List.set_cons_succ]
                  refine wpAnyH_take (i := 1) (v := ?_) rfl (by kernel_rfl) (by kernel_rfl) (by kernel_rfl) (fun _ _ _ h => h) (Or.inl ⟨by rfl, fun w' hS' => ?_⟩) (by assumption) ?_
                  rotate_left
                  · (try dsimp only at hS'); go_simp; (try rw [if_pos (by omega)]); try with_reducible rfl
                  try simp only [Act.put, List.getElem_toArray, List.getElem_cons_zero, List.getElem_cons_succ, List.setIfInBounds_toArray, List.set_cons_zero, List.set_cons_succ]
                  refine wpAnyH_take (i := 2) (v := ?_) rfl (by kernel_rfl) (by kernel_rfl) (by kernel_rfl) (fun _ _ _ h => h) (Or.inl ⟨by rfl, fun w' hS' => ?_⟩) (by assumption) ?_
                  rotate_left
                  · (try dsimp only at hS'); go_simp; (try rw [if_pos (by omega)]); try with_reducible rfl
                  try simp only [Act.put, List.getElem_toArray, List.getElem_cons_zero, List.getElem_cons_succ, List.setIfInBounds_toArray, List.set_cons_zero, List.set_cons_succ]
                  refine wpAnyH_take (i := 3) (v := ?_) rfl (by kernel_rfl) (by kernel_rfl) (by kernel_rfl) (fun _ _ _ h => h) (Or.inl ⟨by rfl, fun w' hS' => ?_⟩) (by assumption) ?_
                  rotate_left
                  · (try dsimp only at hS'); go_simp; (try rw [if_pos (by omega)]); try with_reducible rfl
                  try simp only [Act.put, List.getElem_toArray, List.getElem_cons_zero, List.getElem_cons_succ, List.setIfInBounds_toArray, List.set_cons_zero, List.set_cons_succ]
                  refine wpAnyH_take (i := 4) (v := ?_) rfl (by kernel_rfl) (by kernel_rfl) (by kernel_rfl) (fun _ _ _ h => h) (Or.inl ⟨by rfl, fun w' hS' => ?_⟩) (by assumption) ?_
                  rotate_left
                  · (try dsimp only at hS'); go_simp; (try rw [if_pos (by omega)]); try with_reducible rfl
                  try simp only [Act.put, List.getElem_toArray, List.getElem_cons_zero, List.getElem_cons_succ, List.setIfInBounds_toArray, List.set_cons_zero, List.set_cons_succ]
                  refine wpAnyH_take (i := 5) (v := ?_) rfl (by kernel_rfl) (by kernel_rfl) (by kernel_rfl) (fun _ _ _ h => h) (Or.inl ⟨by rfl, fun w' hS' => ?_⟩) (by assumption) ?_
                  rotate_left
                  · (try dsimp only at hS'); go_simp; (try rw [if_pos (by omega)]); try with_reducible rfl
                  try simp only [Act.put, List.getElem_toArray, List.getElem_cons_zero, List.getElem_cons_succ, List.setIfInBounds_toArray, List.set_cons_zero, List.set_cons_succ]
                  refine wpAnyH_take (i := 6) (v := ?_) rfl (by kernel_rfl) (by kernel_rfl) (by kernel_rfl) (fun _ _ _ h => h) (Or.inl ⟨by rfl, fun w' hS' => ?_⟩) (by assumption) ?_
                  rotate_left
                  · (try dsimp only at hS'); go_simp; (try rw [if_pos (by omega)]); try with_reducible rfl
                  try simp only [Act.put, List.getElem_toArray, List.getElem_cons_zero, List.getElem_cons_succ, List.setIfInBounds_toArray, List.set_cons_zero, List.set_cons_succ]
                  refine wpAnyH_take (i := 7) (v := ?_) rfl (by kernel_rfl) (by kernel_rfl) (by kernel_rfl) (fun _ _ _ h => h) (Or.inl ⟨by rfl, fun w' hS' => ?_⟩) (by assumption) ?_
                  rotate_left
                  · (try dsimp only at hS'); go_simp; (try rw [if_pos (by omega)]); try with_reducible rfl
                  try simp only [Act.put, List.getElem_toArray, List.getElem_cons_zero, List.getElem_cons_succ, List.setIfInBounds_toArray, List.set_cons_zero, List.set_cons_succ]
                  refine wpAnyH_take (i := 8) (v := ?_) rfl (by kernel_rfl) (by kernel_rfl) (by kernel_rfl) (fun _ _ _ h => h) (Or.inl ⟨by rfl, fun w' hS' => ?_⟩) (by assumption) ?_
                  rotate_left
                  · (try dsimp only at hS'); go_simp; (try rw [if_pos (by omega)]); try with_reducible rfl
                  try simp only [Act.put, List.getElem_toArray, List.getElem_cons_zero, List.getElem_cons_succ, List.setIfInBounds_toArray, List.set_cons_zero, List.set_cons_succ]
                  refine wpAnyH_take (i := 9) (v := ?_) rfl (by kernel_rfl) (by kernel_rfl) (by kernel_rfl) (fun _ _ _ h => h) (Or.inl ⟨by rfl, fun w' hS' => ?_⟩) (by assumption) ?_
                  rotate_left
                  · (try dsimp only at hS'); go_simp; (try rw [if_pos (by omega)]); try with_reducible rfl
                  try simp only [Act.put, List.getElem_toArray, List.getElem_cons_zero, List.getElem_cons_succ, List.setIfInBounds_toArray, List.set_cons_zero, List.set_cons_succ]
                  refine wpAnyH_take (i := 10) (v := ?_) rfl (by kernel_rfl) (by kernel_rfl) (by kernel_rfl) (fun _ _ _ h => h) (Or.inl ⟨by rfl, fun w' hS' => ?_⟩) (by assumption) ?_
                  rotate_left
                  · (try dsimp only at hS'); go_simp; (try rw [if_pos (by omega)]); try with_reducible rfl
                  try simp only [Act.put, List.getElem_toArray, List.getElem_cons_zero, List.getElem_cons_succ, List.setIfInBounds_toArray, List.set_cons_zero, List.set_cons_succ]
                  refine wpAnyH_take (i := 11) (v := ?_) rfl (by kernel_rfl) (by kernel_rfl) (by kernel_rfl) (fun _ _ _ h => h) (Or.inl ⟨by rfl, fun w' hS' => ?_⟩) (by assumption) ?_
                  rotate_left
                  · (try dsimp only at hS'); go_simp; (try rw [if_pos (by omega)]); try with_reducible rfl
                  try simp only [Act.put, List.getElem_toArray, List.getElem_cons_zero, List.getElem_cons_succ, List.setIfInBounds_toArray, List.set_cons_zero, List.set_cons_succ]
                  refine wpAnyH_take (i := 12) (v := ?_) rfl (by kernel_rfl) (by kernel_rfl) (by kernel_rfl) (fun _ _ _ h => h) (Or.inl ⟨by rfl, fun w' hS' => ?_⟩) (by assumption) ?_
                  rotate_left
                  · (try dsimp only at hS'); go_simp; (try rw [if_pos (by omega)]); try with_reducible rfl
                  try simp only [Act.put, List.getElem_toArray, List.getElem_cons_zero, List.getElem_cons_succ, List.setIfInBounds_toArray, List.set_cons_zero, List.set_cons_succ]
                  refine wpAnyH_take (i := 13) (v := ?_) rfl (by kernel_rfl) (by kernel_rfl) (by kernel_rfl) (fun _ _ _ h => h) (Or.inl ⟨by rfl, fun w' hS' => ?_⟩) (by assumption) ?_
                  rotate_left
                  · (try dsimp only at hS'); go_simp; (try rw [if_pos (by omega)]); try with_reducible rfl
                  try simp only [Act.put, List.getElem_toArray, List.getElem_cons_zero, List.getElem_cons_succ, List.setIfInBounds_toArray, List.set_cons_zero, List.set_cons_succ]
                  refine wpAnyH_take (i := 14) (v := ?_) rfl (by kernel_rfl) (by kernel_rfl) (by kernel_rfl) (fun _ _ _ h => h) (Or.inl ⟨by rfl, fun w' hS' => ?_⟩) (by assumption) ?_
                  rotate_left
                  · (try dsimp only at hS'); go_simp; (try rw [if_pos (by omega)]); try with_reducible rfl
                  try simp only [Act.put, List.getElem_toArray, List.getElem_cons_zero, List.getElem_cons_succ, List.setIfInBounds_toArray, List.set_cons_zero, List.set_cons_succ]
                  refine wpAnyH_take (i := 15) (v := ?_) rfl (by kernel_rfl) (by kernel_rfl) (by kernel_rfl) (fun _ _ _ h => h) (Or.inl ⟨by rfl, fun w' hS' => ?_⟩) (by assumption) ?_
                  rotate_left
                  · (try dsimp only at hS'); go_simp; (try rw [if_pos (by omega)]); try with_reducible rfl
                  try simp only [Act.put, List.getElem_toArray, List.getElem_cons_zero, List.getElem_cons_succ, List.setIfInBounds_toArray, List.set_cons_zero, List.set_cons_succ]
                  refine wpAnyH_take (i := 16) (v := ?_) rfl (by kernel_rfl) (by kernel_rfl) (by kernel_rfl) (fun _ _ _ h => h) (Or.inl ⟨by rfl, fun w' hS' => ?_⟩) (by assumption) ?_
                  rotate_left
                  · (try dsimp only at hS'); go_simp; (try rw [if_pos (by omega)]); try with_reducible rfl
                  try simp only [Act.put, List.getElem_toArray, List.getElem_cons_zero, List.getElem_cons_succ, List.setIfInBounds_toArray, List.set_cons_zero, List.set_cons_succ]
                  refine wpAnyH_take (i := 17) (v := ?_) rfl (by kernel_rfl) (by kernel_rfl) (by kernel_rfl) (fun _ _ _ h => h) (Or.inl ⟨by rfl, fun w' hS' => ?_⟩) (by assumption) ?_
                  rotate_left
                  · (try dsimp only at hS'); go_simp; (try rw [if_pos (by omega)]); try with_reducible rfl
                  try simp only [Act.put, List.getElem_toArray, List.getElem_cons_zero, List.getElem_cons_succ, List.setIfInBounds_toArray, List.set_cons_zero, List.set_cons_succ]
                  refine wpAnyH_done (by kernel_rfl) ?_ _
                  refine tail_step rfl (fun K' hK => ?_)
                  refine if_yes (by rfl) ?_
                  try simp only [Act.put, List.getElem_toArray, List.getElem_cons_zero, List.getElem_cons_succ, List.setIfInBounds_toArray, List.set_cons_zero, List.set_cons_succ]
                  go_simp
                  refine hK _ _ ?_
                  clear hK K'
                  try simp only [Act.put, List.getElem_toArray, List.getElem_cons_zero, List.getElem_cons_succ, List.setIfInBounds_toArray, List.set_cons_zero, List.set_cons_succ]
                  go_wp2_with fail
                  go_roundg (i - (q+1))
                  case rel =>
                    refine ⟨q+1, by omega, rfl, by go_num, ?_, (A0.far (by dsimp only; omega) _).drew, ext_drew (ext_set E (by dsimp only; omega) _)⟩
                    have hb2 : bit (p.A (n - (m+1))) q = true := by rw [← Hii.out, ← Hz.out]; exact Hb.out
                    rw [← endsRow_next p n m q (by have := Hii.out; omega) hb2, ← Hii.out, ← Hx.out, show tOf p i = u - y by have := Hu.out; have := Hy.out; omega, Int.min_eq_right (by omega)]
                    exact Lib.hid (R.out.set q (u - y)).drew
                  case measure => have := Hq.out; omega
            · have hqi : i = q := by omega
              subst hqi
              go_wp2_with fail
              go_roundg (n - (m+1))
              case rel =>
                refine ⟨m+1, by omega, rfl, by rw [show (n : Int) - 1 - ((m + 1 : Nat) : Int) = (i : Int) - 1 by have := Hii.out; omega], ?_, A0, E⟩
                have hf := endsRow_full p n m
                rw [← Hii.out] at hf
                rw [← hf]
                exact R
              case measure => have := Hm.out; omega
        · have hmn : n = m := by omega
          subst hmn
          rw [show (n : Int) - 1 - n = -1 by omega]
          have Hlow := R.out.lt
          have Hwx := Lib.hid A0.lt
          go_wp2_with fail
          obtain ⟨wo, hwo, T0, hso, hbo⟩ := one_box wx #[] 3
          rw [← hwo.out]
          have R := Lib.hid (R.out.ext hbo)
          have Hlow : Hid (∀ q, (Value.slice av n cv).ownBlock = some q → q < wx.heap.size) := fun q hq => (Hlow q hq).2
          have A0 := A0.ext hbo
          have E := ext_trans E hbo
          have qx := hbo.size
          have hwx := A0.lt
          have O := Lib.hid (Ints.ofBox T0 (Nat.le_refl _))
          have hwx0 : w.heap.size + 1 ≤ wx.heap.size := by have := Hwx.out; omega
          clear T0 hbo
          go_loopg [8, 9] n (fun z vo kk wy => ∃ (k : Nat), k ≤ n ∧ z = n - k ∧ kk = .int .i64 k ∧ Hid (Ints wy wx.heap.size vo (rowOf k (tOf p))) ∧ Hid (Ints wy (w.heap.size + 1) (.slice av n cv) (endsRow p n n 0)) ∧
            Box wy w.heap.size 27 #[.slice a1 n c1, .slice a2 p.af.length c2] ∧ Below w.heap.size w wy ∧ wx.heap.size ≤ wy.heap.size)
          case atStart => exact ⟨0, by omega, by omega, rfl, O, R, A0, E, by omega⟩
          case round =>
            clear R A0 E O
            rename World => wy
            obtain ⟨k, hk, hgk, rfl, O, R, A0, E, hsy⟩ := hrel
            have Hk := Lib.hid hgk
            clear hgk
            obtain ⟨ao, co, rfl, -⟩ := O.out.open
            rw [rowOf_length] at O ⊢
            by_cases hlk : k < n
            · have hel := endsRow_length p n n 0
              obtain ⟨ge, hae, hge1, hge, hfz, ck⟩ := R.out.at_ (j := k) (by omega)
              subst hae
              have hin2 : k < p.lo.length := by rw [← hn.out]; exact hlk
              obtain ⟨g1, ha1, _, hgw, _, -⟩ := H1.out.at_ hin2
              subst ha1
              obtain ⟨_, hae, _, hg1, _, cy⟩ := (H1.out.ext E).at_ hin2
              cases hae
              rw [endsRow_at p n n 0 k hlk, if_neg (Nat.not_lt_zero _), Hfe.out k n hlk (Nat.le_refl _) (by omega)] at ck
              have hy := HLs.out k hin2
              have hu := Hlate.out k hin2
              obtain ⟨y, Hy⟩ : ∃ y, Hid (y = p.L k) := ⟨_, rfl⟩
              obtain ⟨u, Hu⟩ : ∃ u, Hid (u = tOf p k + p.L k) := ⟨_, rfl⟩
              rw [← Hu.out] at ck hu
              rw [show p.lo.getD k 0 = y from Hy.out.symm] at cy
              rw [← Hy.out] at hy
              have hu0 : 0 ≤ u - y := by have := Hlate.out k hin2; have := Hu.out; have := Hy.out; omega
              clear hel hin2
              have hw : IntKind.i64.wrap (u - y) = u - y := IntWalk.i64_in _ (by omega)
              go_wp2_with fail
              refine wp_region_tail 13 (by kernel_rfl) (by kernel_rfl) (fun w' => w'.cell? ⟨w.heap.size, 0, none⟩ = some (.slice (some ⟨g1, 0, none⟩) n c1) ∧ w'.cell? ⟨ge, k, none⟩ = some (.int .i64 u) ∧ w'.cell? ⟨g1, k, none⟩ = some (.int .i64 y)) ?_ ?_
              · exact ⟨A0.cell0 rfl, ck, cy⟩
              intro hHeld
              have O := Lib.hid O.out.drew
              have R := Lib.hid R.out.drew
              have A0 := A0.drew
              have E := ext_drew E
              obtain ⟨d, hd⟩ : ∃ d, Hid (d = wy.drew) := ⟨_, rfl⟩
              have qd : wy.heap.size ≤ d.heap.size := by rw [hd.out]; exact Nat.le_refl _
              have hgd : g1 < d.heap.size := by omega
              have cky : d.cell? ⟨g1, k, none⟩ = some (.int .i64 y) := by rw [hd.out]; exact cy
              rw [← hd.out] at O R A0 E hHeld ⊢
              simp only [List.pop_toArray, List.dropLast]
              refine wpAnyH_take (i := 0) (v := ?_) rfl (by kernel_rfl) (by kernel_rfl) (by kernel_rfl) (fun _ _ _ h => h) (Or.inl ⟨by rfl, fun w' hS' => ?_⟩) (by assumption) ?_
              rotate_left
              · (try dsimp only at hS'); go_simp; (try rw [if_pos (by omega)]); try with_reducible rfl
              try simp only [Act.put, List.getElem_toArray, List.getElem_cons_zero, List.getElem_cons_succ, List.setIfInBounds_toArray, List.set_cons_zero, List.set_cons_succ]
              refine wpAnyH_take (i := 1) (v := ?_) rfl (by kernel_rfl) (by kernel_rfl) (by kernel_rfl) (fun _ _ _ h => h) (Or.inl ⟨by rfl, fun w' hS' => ?_⟩) (by assumption) ?_
              rotate_left
              · (try dsimp only at hS'); go_simp; (try rw [if_pos (by omega)]); try with_reducible rfl
              try simp only [Act.put, List.getElem_toArray, List.getElem_cons_zero, List.getElem_cons_succ, List.setIfInBounds_toArray, List.set_cons_zero, List.set_cons_succ]
              refine wpAnyH_take (i := 2) (v := ?_) rfl (by kernel_rfl) (by kernel_rfl) (by kernel_rfl) (fun _ _ _ h => h) (Or.inl ⟨by rfl, fun w' hS' => ?_⟩) (by assumption) ?_
              rotate_left
              · (try dsimp only at hS'); go_simp; (try rw [if_pos (by omega)]); try with_reducible rfl
              try simp only [Act.put, List.getElem_toArray, List.getElem_cons_zero, List.getElem_cons_succ, List.setIfInBounds_toArray, List.set_cons_zero, List.set_cons_succ]
              refine wpAnyH_take (i := 3) (v := ?_) rfl (by kernel_rfl) (by kernel_rfl) (by kernel_rfl) (fun _ _ _ h => h) (Or.inl ⟨by rfl, fun w' hS' => ?_⟩) (by assumption) ?_
              rotate_left
              · (try dsimp only at hS'); go_simp; (try rw [if_pos (by omega)]); try with_reducible rfl
              try simp only [Act.put, List.getElem_toArray, List.getElem_cons_zero, List.getElem_cons_succ, List.setIfInBounds_toArray, List.set_cons_zero, List.set_cons_succ]
              refine wpAnyH_take (i := 4) (v := ?_) rfl (by kernel_rfl) (by kernel_rfl) (by kernel_rfl) (fun _ _ _ h => h) (Or.inl ⟨by rfl, fun w' hS' => ?_⟩) (by assumption) ?_
              rotate_left
              · (try dsimp only at hS'); go_simp; (try rw [if_pos (by omega)]); try with_reducible rfl
              try simp only [Act.put, List.getElem_toArray, List.getElem_cons_zero, List.getElem_cons_succ, List.setIfInBounds_toArray, List.set_cons_zero, List.set_cons_succ]
              refine wpAnyH_take (i := 5) (v := ?_) rfl (by kernel_rfl) (by kernel_rfl) (by kernel_rfl) (fun _ _ _ h => h) (Or.inl ⟨by rfl, fun w' hS' => ?_⟩) (by assumption) ?_
              rotate_left
              · (try dsimp only at hS'); go_simp; (try rw [if_pos (by omega)]); try with_reducible rfl
              try simp only [Act.put, List.getElem_toArray, List.getElem_cons_zero, List.getElem_cons_succ, List.setIfInBounds_toArray, List.set_cons_zero, List.set_cons_succ]
              refine wpAnyH_take (i := 6) (v := ?_) rfl (by kernel_rfl) (by kernel_rfl) (by kernel_rfl) (fun _ _ _ h => h) (Or.inl ⟨by rfl, fun w' hS' => ?_⟩) (by assumption) ?_
              rotate_left
              · (try dsimp only at hS'); go_simp; (try rw [if_pos (by omega)]); try with_reducible rfl
              try simp only [Act.put, List.getElem_toArray, List.getElem_cons_zero, List.getElem_cons_succ, List.setIfInBounds_toArray, List.set_cons_zero, List.set_cons_succ]
              refine wpAnyH_take (i := 7) (v := ?_) rfl (by kernel_rfl) (by kernel_rfl) (by kernel_rfl) (fun _ _ _ h => h) (Or.inl ⟨by rfl, fun w' hS' => ?_⟩) (by assumption) ?_
              rotate_left
              · (try dsimp only at hS'); go_simp; (try rw [if_pos (by omega)]); try with_reducible rfl
              try simp only [Act.put, List.getElem_toArray, List.getElem_cons_zero, List.getElem_cons_succ, List.setIfInBounds_toArray, List.set_cons_zero, List.set_cons_succ]
              refine wpAnyH_take (i := 8) (v := ?_) rfl (by kernel_rfl) (by kernel_rfl) (by kernel_rfl) (fun _ _ _ h => h) (Or.inl ⟨by rfl, fun w' hS' => ?_⟩) (by assumption) ?_
              rotate_left
              · (try dsimp only at hS'); go_simp; (try rw [if_pos (by omega)]); try with_reducible rfl
              try simp only [Act.put, List.getElem_toArray, List.getElem_cons_zero, List.getElem_cons_succ, List.setIfInBounds_toArray, List.set_cons_zero, List.set_cons_succ]
              refine wpAnyH_take (i := 9) (v := ?_) rfl (by kernel_rfl) (by kernel_rfl) (by kernel_rfl) (fun _ _ _ h => h) (Or.inl ⟨by rfl, fun w' hS' => ?_⟩) (by assumption) ?_
              rotate_left
              · (try dsimp only at hS'); go_simp; (try rw [if_pos (by omega)]); try with_reducible rfl
              try simp only [Act.put, List.getElem_toArray, List.getElem_cons_zero, List.getElem_cons_succ, List.setIfInBounds_toArray, List.set_cons_zero, List.set_cons_succ]
              refine wpAnyH_take (i := 10) (v := ?_) rfl (by kernel_rfl) (by kernel_rfl) (by kernel_rfl) (fun _ _ _ h => h) (Or.inl ⟨by rfl, fun w' hS' => ?_⟩) (by assumption) ?_
              rotate_left
              · (try dsimp only at hS'); go_simp; (try rw [if_pos (by omega)]); try with_reducible rfl
              try simp only [Act.put, List.getElem_toArray, List.getElem_cons_zero, List.getElem_cons_succ, List.setIfInBounds_toArray, List.set_cons_zero, List.set_cons_succ]
              try rw [hw]
              refine wpAnyH_ready (rs := [11]) (by kernel_rfl) (by simp) ?_
              refine AllReadyH.cons rfl (fun K' hK => ?_) AllReadyH.nil
              refine if_yes (by rfl) ?_
              try simp only [Act.put, List.getElem_toArray, List.getElem_cons_zero, List.getElem_cons_succ, List.setIfInBounds_toArray, List.set_cons_zero, List.set_cons_succ]
              go_simp
              obtain ⟨d2, hd2, T2, hs2, hb2⟩ := one_box d #[.int .i64 (u - y)] 3
              have hlit : Ints d2 0 (.slice (some ⟨d.heap.size, 0, none⟩) 1 1) [u - y] := by rw [hd2.out]; exact (Ints.lit d (u - y)).base (Nat.zero_le _)
              try rw [hw]
              rw [← hd2.out]
              have O := Lib.hid (O.out.ext hb2)
              have R := Lib.hid (R.out.ext hb2)
              have A0 := A0.ext hb2
              have E := ext_trans E hb2
              have cky := (hb2.cell (by exact hgd)).trans cky
              have q2 := hb2.size
              refine hK.out _ _ ?_ (fun hHeld => ?_)
              · exact ⟨A0.cell0 rfl, by rw [R.out.cellI (by rw [endsRow_length]; exact hlk), endsRow_at p n n 0 k hlk, if_neg (Nat.not_lt_zero _), Hfe.out k n hlk (Nat.le_refl _) (by omega), Hu.out], cky⟩
              clear hK K'
              try simp only [Act.put, List.getElem_toArray, List.getElem_cons_zero, List.getElem_cons_succ, List.setIfInBounds_toArray, List.set_cons_zero, List.set_cons_succ]
              refine wpAnyH_ready (rs := [12]) (by kernel_rfl) (by simp) ?_
              refine AllReadyH.cons rfl (fun K' hK => ?_) AllReadyH.nil
              refine if_yes (by rfl) ?_
              try simp only [Act.put, List.getElem_toArray, List.getElem_cons_zero, List.getElem_cons_succ, List.setIfInBounds_toArray, List.set_cons_zero, List.set_cons_succ]
              refine wp_appI _ (.tmp 68) (.tmp 79) rfl wx.heap.size 0 (.slice ao k co) (rowOf k (tOf p)) rfl (by have := O.out; exact this) _ [u - y] rfl hlit (by rw [rowOf_length]; simp; omega) (by omega) ?_
              intro v' w5 hv' hg'
              have lt := O.out.lt
              have hne : ∀ q, (Value.slice ao k co).ownBlock = some q → wx.heap.size ≤ q := fun q hq => (lt q hq).1
              have R := Lib.hid (R.out.far hg' (fun q hq e => by have := Hlow.out q hq; have := hne q e; omega))
              have A0 := A0.grown hg' (fun e => by have := hne _ e.symm; omega)
              have cky : w5.cell? ⟨g1, k, none⟩ = some (.int .i64 y) := by
                have E5 := ext_grown E hg' (fun q hq => by have := hne q hq; omega)
                exact ((E5.cell (by exact hgw)).trans (E.cell (by exact hgw)).symm).trans cky
              have E := ext_grown E hg' (fun q hq => by have := hne q hq; omega)
              have hz := hg'.size
              refine hK.out _ _ ?_ (fun hHeld => ?_)
              · exact ⟨A0.cell0 rfl, by rw [R.out.cellI (by rw [endsRow_length]; exact hlk), endsRow_at p n n 0 k hlk, if_neg (Nat.not_lt_zero _), Hfe.out k n hlk (Nat.le_refl _) (by omega), Hu.out], cky⟩
              clear hK K'
              try simp only [Act.put, List.getElem_toArray, List.getElem_cons_zero, List.getElem_cons_succ, List.setIfInBounds_toArray, List.set_cons_zero, List.set_cons_succ]
              refine wpAnyH_done (by kernel_rfl) ?_ _
              refine tail_step rfl (fun K' hK => ?_)
              refine if_yes (by rfl) ?_
              try simp only [Act.put, List.getElem_toArray, List.getElem_cons_zero, List.getElem_cons_succ, List.setIfInBounds_toArray, List.set_cons_zero, List.set_cons_succ]
              go_simp
              refine hK _ _ ?_
              clear hK K'
              try simp only [Act.put, List.getElem_toArray, List.getElem_cons_zero, List.getElem_cons_succ, List.setIfInBounds_toArray, List.set_cons_zero, List.set_cons_succ]
              go_wp2_with fail
              go_roundg (n - (k+1))
              case rel =>
                refine ⟨k+1, by omega, rfl, by go_num, ?_, R, A0, E, by omega⟩
                rw [rowOf_snoc, show tOf p k = u - y by have := Hu.out; have := Hy.out; omega]
                exact Lib.hid hv'
              case measure => have := Hk.out; omega
            · have hkn : n = k := by omega
              subst hkn
              go_wp2_with fail
              go_ret
              refine ⟨_, rfl, ?_, E⟩
              have hr : rowOf n (tOf p) = p.late := by rw [hn.out]; exact late_row p
              have := O.out
              rw [hr] at this
              exact this.base (by omega)
end Go.Proofs.Ytllicgomlohffaa
