/- The walks of l3Search and BadRing of spec. Conditions: the bounds and places can be read, the places are places of bounds. -/
import Derived.Test.YtlcmhcfnmohgmaaRing
import Derived.Test.YtlcmhcfnmohgmaaFitsS
import Derived.Test.YtlcmhcfnmohgmaaApp
import Derived.Deep.DeepCutAuto
namespace Go.Proofs.Ytlcmhcfnmohgmaa
open Go.RowKit
set_option linter.unusedVariables false
set_option linter.unusedSimpArgs false
def RetRow (w : World) (v2 : Value) (row : List Int) (many : Nat) : Ending → World → Prop := fun e w' => ∃ (v : Value) (l : List Int), e = .returned v ∧ ((v = v2 ∧ l = row) ∨ Ints w' w.heap.size v l) ∧ l.length ≤ many ∧ Below w.heap.size w w'
def OutRow (w : World) (many : Nat) (v : Value) (wx : World) : Prop := ∃ l : List Int, Ints wx w.heap.size v l ∧ l.length ≤ many ∧ Below w.heap.size w wx
set_option maxRecDepth 100000 in
set_option maxHeartbeats 16000000 in
theorem spec_l3Search (p : Pl) (many : Nat) (hm1 : 1 ≤ many) (hm : many ≤ 100) (hbl : p.bs.length ≤ 100) : ∀ (d : Nat) (row : List Int) (sum : Int) (v1 v2 : Value) (w : World), row.length + d = many → (∀ j, j < row.length → 0 ≤ row.getD j 0 ∧ row.getD j 0 < p.bs.length) →
    Bds w 0 v1 p.bs → Ints w 0 v2 row → Calls Try.prog 92 #[.agg #[.int .i64 p.pts, v1], v2, .int .i64 many, .int .i64 sum] w (RetRow w v2 row many) := by
  intro d
  induction d with
  | zero =>
    intro row sum v1 v2 w hd hr hp hv
    have hl : row.length = many := by omega
    have HP := Lib.hid hp; have HV := Lib.hid hv; have Hr := Lib.hid hr
    obtain ⟨a1, c1, rfl, hn1, hc1, -⟩ := hp.open
    obtain ⟨a2, c2, rfl, hn2, hc2, -⟩ := hv.open
    clear hp hv hr
    subst hl
    have hwm : IntKind.i64.wrap ((row.length : Int) - 1) = ((row.length - 1 : Nat) : Int) := by rw [IntWalk.i64_in _ (by omega)]; omega
    go_enter Try.func92, Try.ntmps92
    go_wp2_with fail
    obtain ⟨w1, hw1, A0, hs, E⟩ := one_box w #[.int .i64 p.pts, .slice a1 p.bs.length c1] 25
    rw [← hw1.out]
    obtain ⟨g, ha, _, hg, _, cx⟩ := (HV.out.ext E).at_ (j := row.length - 1) (by omega)
    obtain ⟨_, he, _, _, _, cy⟩ := (HV.out.ext E).at_ (j := 0) (by omega)
    have i1 := Hr.out (row.length - 1) (by omega)
    have i2 := Hr.out 0 (by omega)
    subst ha
    cases he
    obtain ⟨x, hx⟩ : ∃ x : Nat, row.getD (row.length - 1) 0 = (x : Int) := ⟨(row.getD (row.length - 1) 0).toNat, by omega⟩
    obtain ⟨y, hy⟩ : ∃ x : Nat, row.getD 0 0 = (x : Int) := ⟨(row.getD 0 0).toNat, by omega⟩
    rw [hx] at cx i1
    rw [hy] at cy i2
    have hxl : x < p.bs.length := by omega
    have hyl : y < p.bs.length := by omega
    obtain ⟨h, hh, _, hhl, _, _, x1, _⟩ := (HP.out.ext E).at_ hxl
    obtain ⟨_, he, _, _, _, y0, _, _⟩ := (HP.out.ext E).at_ hyl
    subst hh
    cases he
    obtain ⟨t, Ht⟩ : ∃ t, Hid (t = (p.bs.getD x Bd.z).t) := ⟨_, rfl⟩
    obtain ⟨f, Hf⟩ : ∃ t, Hid (t = (p.bs.getD y Bd.z).f) := ⟨_, rfl⟩
    rw [← Ht.out] at x1
    rw [← Hf.out] at y0
    clear hx hy i1 i2
    have hr0 : 0 < row.length := by omega
    have hr1 : row.length - 1 < row.length := by omega
    obtain ⟨rc0, rz0⟩ := (A0).rules; have rl0 := (A0).lt
    by_cases htf : t = f
    · have he : (t == f) = true := by simp [htf]
      clear htf
      by_cases hsum : sum < 0
      · have hd0 : decide (sum < 0) = true := decide_eq_true hsum
        go_wp2_with fail
        go_quiet (fail)
        go_wp2_with fail
        go_ret
        exact ⟨_, row, rfl, .inl ⟨rfl, rfl⟩, Nat.le_refl _, ext_trans E (ext_drewR _ _)⟩
      · have hd0 : decide (sum < 0) = false := decide_eq_false hsum
        go_wp2_with fail
        go_quiet (fail)
        go_wp2_with fail
        go_ret
        exact ⟨_, [], rfl, .inr (Ints.ofBox (Box.new _ _ _) (by show w.heap.size ≤ w1.heap.size; exact E.size)), by simp, ext_alloc (ext_trans E (ext_drewR _ _)) _⟩
    · have he : (t == f) = false := by simp [htf]
      clear htf
      go_wp2_with fail
      go_quiet (fail)
      go_wp2_with fail
      go_ret
      exact ⟨_, [], rfl, .inr (Ints.ofBox (Box.new _ _ _) (by show w.heap.size ≤ w1.heap.size; exact E.size)), by simp, ext_alloc (ext_trans E (ext_drewR _ _)) _⟩
  | succ d ih =>
    intro row sum v1 v2 w hd hr hp hv
    have hl : row.length < many := by omega
    have HP := Lib.hid hp; have HV := Lib.hid hv; have Hr := Lib.hid hr
    obtain ⟨a1, c1, rfl, hn1, hc1, -⟩ := hp.open
    obtain ⟨a2, c2, rfl, hn2, hc2, -⟩ := hv.open
    clear hp hv hr
    have hrange : ∀ k, k < p.bs.length → ∀ j, j < (row ++ [(k : Int)]).length → 0 ≤ (row ++ [(k : Int)]).getD j 0 ∧ (row ++ [(k : Int)]).getD j 0 < p.bs.length := by
      intro k hk j hj
      rw [List.length_append, List.length_singleton] at hj
      by_cases hjr : j < row.length
      · rw [List.getD_eq_getElem?_getD, List.getElem?_append_left hjr, ← List.getD_eq_getElem?_getD]; exact Hr.out j hjr
      · rw [List.getD_eq_getElem?_getD, List.getElem?_append_right (by omega), show j - row.length = 0 by omega]
        show 0 ≤ (k : Int) ∧ (k : Int) < p.bs.length
        omega
    have hne0 : ((row.length : Int) == (many : Int)) = false := beq_false_of_ne (by omega)
    go_enter Try.func92, Try.ntmps92
    go_wp2_with fail
    obtain ⟨w1, hw1, A0, hs, E⟩ := one_box w #[.int .i64 p.pts, .slice a1 p.bs.length c1] 25
    rw [← hw1.out]
    go_loopg [9] p.bs.length (fun m kk wr => ∃ k : Nat, k ≤ p.bs.length ∧ m = p.bs.length - k ∧ kk = .int .i64 k ∧ Below w1.heap.size w1 wr)
    case atStart => exact ⟨0, by omega, by omega, rfl, ext_refl _⟩
    case round =>
      rename World => wr
      obtain ⟨k, hk, hgk, rfl, hb⟩ := hrel
      have Hk := Lib.hid hgk
      clear hgk
      have A1 := A0.ext hb
      have E1 := ext_trans E hb
      obtain ⟨rc0, rz0⟩ := (A1).rules; have rl0 := (A1).lt
      by_cases hlk : k < p.bs.length
      · by_cases hr0 : row.length = 0
        · obtain rfl : row = [] := List.eq_nil_of_length_eq_zero hr0
          clear hr0
          go_wp2_with fail
          go_quiet (fail)
          obtain ⟨ws, hws⟩ : ∃ ws, Hid (ws = wr.drewN nq) := ⟨_, rfl⟩
          have hb := ext_trans hb (ext_drewR wr nq)
          have A0 := A1.ext (ext_drewR wr nq)
          rw [← hws.out] at hb A0 ⊢
          have E0 := ext_trans E hb
          have qws : w1.heap.size ≤ ws.heap.size := hb.size
          clear rc0 rz0 rl0 A1
          obtain ⟨rc0, rz0⟩ := (A0).rules; have rl0 := (A0).lt
          obtain ⟨m9, Hm9⟩ : ∃ m, Hid (m = (p.bs.getD k Bd.z).m) := ⟨_, rfl⟩
          obtain ⟨h, hh1, _, hh, _, _, _, x2⟩ := (HP.out.ext E0).at_ hlk
          rw [← Hm9.out] at x2
          subst hh1
          have hh2 : h = h := rfl
          obtain ⟨sm, Hsm⟩ : ∃ s, Hid (s = IntKind.i64.wrap (sum + m9)) := ⟨_, rfl⟩
          have hwsm : IntKind.i64.wrap (sum + m9) = sm := Hsm.out.symm
          go_upto_region 9 with fail
          go_cut [10] (fun v10 wx => OutRow ws many v10 wx)
          case first =>
            refine wp_region_held_drew (S := fun w' => w'.cell? ⟨w.heap.size, 0, none⟩ = some (Value.int .i64 p.pts) ∧ w'.cell? ⟨w.heap.size, 1, none⟩ = some (Value.slice (some ⟨h, 0, none⟩) p.bs.length c1) ∧ w'.cell? ⟨h, k * 3 + 2, none⟩ = some (Value.int .i64 m9)) (by kernel_rfl) ?_ (fun hHeld => ?_)
            · exact ⟨(A0.drew).cell0 rfl, (A0.drew).cell0 rfl, x2⟩
            have X := ext_drew (ext_refl ws)
            obtain ⟨D, hD⟩ : ∃ D, Hid (D = ws.drew) := ⟨_, rfl⟩
            have qD : ws.heap.size ≤ D.heap.size := by rw [hD.out]; exact Nat.le_refl _
            rw [← hD.out] at X hHeld ⊢
            try simp only [Act.put, List.setIfInBounds_toArray, List.set_cons_zero, List.set_cons_succ]
            refine wpAnyH_take (i := 0) (v := ?_) rfl (by kernel_rfl) (by kernel_rfl) (by kernel_rfl) (fun _ _ _ h => h) (Or.inl ⟨by rfl, fun w' hS' => ?_⟩) (by assumption) ?_
            rotate_left
            · (try dsimp only at hS'); go_simp; (try rw [if_pos (by omega)]); try with_reducible rfl
            try simp only [Act.put, List.getElem_toArray, List.getElem_cons_zero, List.getElem_cons_succ, List.setIfInBounds_toArray, List.set_cons_zero, List.set_cons_succ]
            refine wpAnyH_take (i := 2) (v := ?_) rfl (by kernel_rfl) (by kernel_rfl) (by kernel_rfl) (fun _ _ _ h => h) (Or.inl ⟨by rfl, fun w' hS' => ?_⟩) (by assumption) ?_
            rotate_left
            · (try dsimp only at hS'); go_simp; (try rw [if_pos (by omega)]); try with_reducible rfl
            try simp only [Act.put, List.getElem_toArray, List.getElem_cons_zero, List.getElem_cons_succ, List.setIfInBounds_toArray, List.set_cons_zero, List.set_cons_succ]
            refine wpAnyH_take (i := 4) (v := ?_) rfl (by kernel_rfl) (by kernel_rfl) (by kernel_rfl) (fun _ _ _ h => h) (Or.inl ⟨by rfl, fun w' hS' => ?_⟩) (by assumption) ?_
            rotate_left
            · (try dsimp only at hS'); go_simp; (try rw [if_pos (by omega)]); try with_reducible rfl
            try simp only [Act.put, List.getElem_toArray, List.getElem_cons_zero, List.getElem_cons_succ, List.setIfInBounds_toArray, List.set_cons_zero, List.set_cons_succ]
            refine wpAnyH_take (i := 7) (v := ?_) rfl (by kernel_rfl) (by kernel_rfl) (by kernel_rfl) (fun _ _ _ h => h) (Or.inl ⟨by rfl, fun w' hS' => ?_⟩) (by assumption) ?_
            rotate_left
            · (try dsimp only at hS'); go_simp; (try rw [if_pos (by omega)]); try with_reducible rfl
            try simp only [Act.put, List.getElem_toArray, List.getElem_cons_zero, List.getElem_cons_succ, List.setIfInBounds_toArray, List.set_cons_zero, List.set_cons_succ]
            refine wpAnyH_take (i := 8) (v := ?_) rfl (by kernel_rfl) (by kernel_rfl) (by kernel_rfl) (fun _ _ _ h => h) (Or.inl ⟨by rfl, fun w' hS' => ?_⟩) (by assumption) ?_
            rotate_left
            · (try dsimp only at hS'); go_simp; (try rw [if_pos (by omega)]); try with_reducible rfl
            try simp only [Act.put, List.getElem_toArray, List.getElem_cons_zero, List.getElem_cons_succ, List.setIfInBounds_toArray, List.set_cons_zero, List.set_cons_succ]
            refine wpAnyH_take (i := 9) (v := ?_) rfl (by kernel_rfl) (by kernel_rfl) (by kernel_rfl) (fun _ _ _ h => h) (Or.inl ⟨by rfl, fun w' hS' => ?_⟩) (by assumption) ?_
            rotate_left
            · (try dsimp only at hS'); go_simp; (try rw [if_pos (by omega)]); try with_reducible rfl
            try simp only [Act.put, List.getElem_toArray, List.getElem_cons_zero, List.getElem_cons_succ, List.setIfInBounds_toArray, List.set_cons_zero, List.set_cons_succ]
            refine wpAnyH_take (i := 10) (v := ?_) rfl (by kernel_rfl) (by kernel_rfl) (by kernel_rfl) (fun _ _ _ h => h) (Or.inl ⟨by rfl, fun w' hS' => ?_⟩) (by assumption) ?_
            rotate_left
            · (try dsimp only at hS'); go_simp; (try rw [if_pos (by omega)]); try with_reducible rfl
            try simp only [Act.put, List.getElem_toArray, List.getElem_cons_zero, List.getElem_cons_succ, List.setIfInBounds_toArray, List.set_cons_zero, List.set_cons_succ]
            refine wpAnyH_take (i := 11) (v := ?_) rfl (by kernel_rfl) (by kernel_rfl) (by kernel_rfl) (fun _ _ _ h => h) (Or.inl ⟨by rfl, fun w' hS' => ?_⟩) (by assumption) ?_
            rotate_left
            · (try dsimp only at hS'); go_simp; (try rw [if_pos (by omega)]); try with_reducible rfl
            try simp only [Act.put, List.getElem_toArray, List.getElem_cons_zero, List.getElem_cons_succ, List.setIfInBounds_toArray, List.set_cons_zero, List.set_cons_succ]
            refine wpAnyH_take (i := 12) (v := ?_) rfl (by kernel_rfl) (by kernel_rfl) (by kernel_rfl) (fun _ _ _ h => h) (Or.inl ⟨by rfl, fun w' hS' => ?_⟩) (by assumption) ?_
            rotate_left
            · (try dsimp only at hS'); go_simp; (try rw [if_pos (by omega)]); try with_reducible rfl
            try simp only [Act.put, List.getElem_toArray, List.getElem_cons_zero, List.getElem_cons_succ, List.setIfInBounds_toArray, List.set_cons_zero, List.set_cons_succ]
            refine wpAnyH_take (i := 13) (v := ?_) rfl (by kernel_rfl) (by kernel_rfl) (by kernel_rfl) (fun _ _ _ h => h) (Or.inl ⟨by rfl, fun w' hS' => ?_⟩) (by assumption) ?_
            rotate_left
            · (try dsimp only at hS'); go_simp; (try rw [if_pos (by omega)]); try with_reducible rfl
            try simp only [Act.put, List.getElem_toArray, List.getElem_cons_zero, List.getElem_cons_succ, List.setIfInBounds_toArray, List.set_cons_zero, List.set_cons_succ]
            refine wpAnyH_take (i := 14) (v := ?_) rfl (by kernel_rfl) (by kernel_rfl) (by kernel_rfl) (fun _ _ _ h => h) (Or.inl ⟨by rfl, fun w' hS' => ?_⟩) (by assumption) ?_
            rotate_left
            · (try dsimp only at hS'); go_simp; (try rw [if_pos (by omega)]); try with_reducible rfl
            try simp only [Act.put, List.getElem_toArray, List.getElem_cons_zero, List.getElem_cons_succ, List.setIfInBounds_toArray, List.set_cons_zero, List.set_cons_succ]
            refine wpAnyH_take (i := 15) (v := ?_) rfl (by kernel_rfl) (by kernel_rfl) (by kernel_rfl) (fun _ _ _ h => h) (Or.inl ⟨by rfl, fun w' hS' => ?_⟩) (by assumption) ?_
            rotate_left
            · (try dsimp only at hS'); go_simp; (try rw [if_pos (by omega)]); try with_reducible rfl
            try simp only [Act.put, List.getElem_toArray, List.getElem_cons_zero, List.getElem_cons_succ, List.setIfInBounds_toArray, List.set_cons_zero, List.set_cons_succ]
            refine wpAnyH_ready (rs := [1, 5]) (by kernel_rfl) (by simp) ?_
            refine AllReadyH.cons rfl (fun K' hK => ?_) (AllReadyH.cons rfl (fun K' hK => ?_) AllReadyH.nil)
            · skip
              refine if_yes (by rfl) ?_
              try simp only [Act.put, List.setIfInBounds_toArray, List.set_cons_zero, List.set_cons_succ]
              go_simp
              obtain ⟨u1, hu1, Bu1, su1, eu1⟩ := one_box D #[] 3
              have TE : Ints u1 D.heap.size (.slice (some ⟨D.heap.size, 0, none⟩) 0 0) [] := Ints.ofBox Bu1 (Nat.le_refl _)
              rw [← hu1.out]
              have X := ext_trans X eu1
              obtain ⟨be, Hbe⟩ : ∃ b, Hid (b = D.heap.size) := ⟨_, rfl⟩
              rw [← Hbe.out] at TE ⊢
              have qbe : ws.heap.size ≤ be := by rw [Hbe.out]; exact qD
              have qu1 : ws.heap.size ≤ u1.heap.size := X.size
              have hbe2 : be ≤ u1.heap.size := Nat.le_of_lt (TE.lt be rfl).2
              have TEl : be < u1.heap.size := (TE.lt _ rfl).2
              refine hK.out _ _ ?_ (fun hHeld => ?_)
              · exact ⟨(A0.ext X).cell0 rfl, (A0.ext X).cell0 rfl, (X.cell (by exact hh)).trans x2⟩
              clear hK K'
              try simp only [Act.put, List.setIfInBounds_toArray, List.set_cons_zero, List.set_cons_succ]
              refine wpAnyH_ready (rs := [3, 5]) (by kernel_rfl) (by simp) ?_
              refine AllReadyH.cons rfl (fun K' hK => ?_) (AllReadyH.cons rfl (fun K' hK => ?_) AllReadyH.nil)
              · skip
                refine if_yes (by rfl) ?_
                try simp only [Act.put, List.setIfInBounds_toArray, List.set_cons_zero, List.set_cons_succ]
                refine wp_appI _ (.tmp 71) (.tmp 72) rfl be 0 (.slice (some ⟨be, 0, none⟩) 0 0) [] rfl TE (.slice a2 0 c2) ([] : List Int) rfl ((HV.out.ext (ext_trans E0 X))) (by first | (simp; done) | (simp; omega)) (by omega) ?_
                intro v' u2 hv' hg'
                rw [List.nil_append] at hv'
                obtain ⟨an, cn, rfl, -⟩ := hv'.open
                have TN := hv'
                have TNl : ∀ q, (Value.slice an (0) cn).ownBlock = some q → q < u2.heap.size := fun q hq => (TN.lt q hq).2
                have X := ext_grown X hg' (fun q hq => by simp [Value.ownBlock] at hq; omega)
                have qu2 : ws.heap.size ≤ u2.heap.size := X.size
                have hbe2 : be ≤ u2.heap.size := by have := hg'.size; omega
                clear hg' hv' TE
                refine hK.out _ _ ?_ (fun hHeld => ?_)
                · exact ⟨(A0.ext X).cell0 rfl, (A0.ext X).cell0 rfl, (X.cell (by exact hh)).trans x2⟩
                clear hK K'
                try simp only [Act.put, List.setIfInBounds_toArray, List.set_cons_zero, List.set_cons_succ]
                refine wpAnyH_ready (rs := [5]) (by kernel_rfl) (by simp) ?_
                refine AllReadyH.cons rfl (fun K' hK => ?_) AllReadyH.nil
                refine if_yes (by rfl) ?_
                try simp only [Act.put, List.setIfInBounds_toArray, List.set_cons_zero, List.set_cons_succ]
                go_simp
                obtain ⟨u3, hu3, Bu3, su3, eu3⟩ := one_box u2 #[.int .i64 k] 3
                have TL : Ints u3 u2.heap.size (.slice (some ⟨u2.heap.size, 0, none⟩) 1 1) [(k : Int)] := by rw [hu3.out]; exact Ints.lit u2 k
                rw [← hu3.out]
                have X := ext_trans X eu3
                have TN := TN.ext eu3
                obtain ⟨bl, Hbl⟩ : ∃ b, Hid (b = u2.heap.size) := ⟨_, rfl⟩
                rw [← Hbl.out] at TL ⊢
                have qbl : ws.heap.size ≤ bl := by rw [Hbl.out]; exact qu2
                have qu3 : ws.heap.size ≤ u3.heap.size := X.size
                have hbe2 : be ≤ u3.heap.size := by have := (eu3).size; omega
                have hnel : ∀ q, (Value.slice an (0) cn).ownBlock = some q → q ≠ bl := fun q hq => by have := TNl q hq; rw [Hbl.out]; omega
                refine hK.out _ _ ?_ (fun hHeld => ?_)
                · exact ⟨(A0.ext X).cell0 rfl, (A0.ext X).cell0 rfl, (X.cell (by exact hh)).trans x2⟩
                clear hK K'
                try simp only [Act.put, List.setIfInBounds_toArray, List.set_cons_zero, List.set_cons_succ]
                refine wpAnyH_ready (rs := [6]) (by kernel_rfl) (by simp) ?_
                refine AllReadyH.cons rfl (fun K' hK => ?_) AllReadyH.nil
                refine if_yes (by rfl) ?_
                try simp only [Act.put, List.setIfInBounds_toArray, List.set_cons_zero, List.set_cons_succ]
                refine wp_appI _ (.tmp 73) (.tmp 75) rfl be 0 (.slice an 0 cn) ([] : List Int) rfl TN (.slice (some ⟨bl, 0, none⟩) 1 1) [(k : Int)] rfl (TL.base (Nat.zero_le _)) (by first | (simp; done) | (simp; omega)) (by omega) ?_
                intro v' u4 hv' hg'
                obtain ⟨am, cm, rfl, -⟩ := hv'.open
                have he1 : (([] : List Int) ++ [(k : Int)]).length = 1 := by simp
                rw [he1] at hv'
                try rw [he1]
                have TM := hv'
                have X := ext_grown X hg' (fun q hq => by have := (TN.lt q hq).1; omega)
                have qu4 : ws.heap.size ≤ u4.heap.size := X.size
                clear hg' hv' he1
                refine hK.out _ _ ?_ (fun hHeld => ?_)
                · exact ⟨(A0.ext X).cell0 rfl, (A0.ext X).cell0 rfl, (X.cell (by exact hh)).trans x2⟩
                clear hK K'
                try simp only [Act.put, List.setIfInBounds_toArray, List.set_cons_zero, List.set_cons_succ]
                refine wpAnyH_ready (rs := [16]) (by kernel_rfl) (by simp) ?_
                refine AllReadyH.cons rfl (fun K' hK => ?_) AllReadyH.nil
                refine if_yes (by rfl) ?_
                try simp only [Act.put, List.setIfInBounds_toArray, List.set_cons_zero, List.set_cons_succ]
                go_simp
                refine (ih (([] : List Int) ++ [(k : Int)]) sm _ _ u4 (by first | (simp; omega) | (have h := hd; simp only [List.length_nil, List.nil_append, List.length_singleton] at h ⊢; omega)) (hrange k hlk) (HP.out.ext (ext_trans E0 X)) (TM.base (Nat.zero_le _))).mono ?_
                rintro e u5 ⟨v9, l9, rfl, hor, hl9, hb9⟩
                have hfin : Ints u5 ws.heap.size v9 l9 := by
                  rcases hor with ⟨rfl, rfl⟩ | h
                  · exact (TM.ext hb9).base (by omega)
                  · exact h.base (by omega)
                have X := ext_trans X hb9
                clear hor hb9
                go_wp2_with fail
                refine hK.out _ _ ?_ (fun hHeld => ?_)
                · exact ⟨(A0.ext X).cell0 rfl, (A0.ext X).cell0 rfl, (X.cell (by exact hh)).trans x2⟩
                clear hK K'
                try simp only [Act.put, List.setIfInBounds_toArray, List.set_cons_zero, List.set_cons_succ]
                refine wpAnyH_take (i := 17) (v := ?_) rfl (by kernel_rfl) (by kernel_rfl) (by kernel_rfl) (fun _ _ _ h => h) (Or.inl ⟨by rfl, fun w' hS' => ?_⟩) (by assumption) ?_
                rotate_left
                · (try dsimp only at hS'); go_simp; (try rw [if_pos (by omega)]); try with_reducible rfl
                try simp only [Act.put, List.getElem_toArray, List.getElem_cons_zero, List.getElem_cons_succ, List.setIfInBounds_toArray, List.set_cons_zero, List.set_cons_succ]
                refine wpAnyH_done (by kernel_rfl) ?_ _
                try simp only [Act.put, List.setIfInBounds_toArray, List.set_cons_zero, List.set_cons_succ]
                go_wp2_with fail
                go_meet
                exact ⟨l9, hfin, hl9, X⟩
              · skip
                refine if_yes (by rfl) ?_
                try simp only [Act.put, List.setIfInBounds_toArray, List.set_cons_zero, List.set_cons_succ]
                go_simp
                obtain ⟨u6, hu6, Bu6, su6, eu6⟩ := one_box u1 #[.int .i64 k] 3
                have TL : Ints u6 u1.heap.size (.slice (some ⟨u1.heap.size, 0, none⟩) 1 1) [(k : Int)] := by rw [hu6.out]; exact Ints.lit u1 k
                rw [← hu6.out]
                have X := ext_trans X eu6
                have TE := TE.ext eu6
                obtain ⟨bl, Hbl⟩ : ∃ b, Hid (b = u1.heap.size) := ⟨_, rfl⟩
                rw [← Hbl.out] at TL ⊢
                have qbl : ws.heap.size ≤ bl := by rw [Hbl.out]; exact qu1
                have qu6 : ws.heap.size ≤ u6.heap.size := X.size
                have hbe2 : be ≤ u6.heap.size := by have := (eu6).size; omega
                have hne : bl ≠ be := by have := TEl; rw [Hbl.out]; omega
                refine hK.out _ _ ?_ (fun hHeld => ?_)
                · exact ⟨(A0.ext X).cell0 rfl, (A0.ext X).cell0 rfl, (X.cell (by exact hh)).trans x2⟩
                clear hK K'
                try simp only [Act.put, List.setIfInBounds_toArray, List.set_cons_zero, List.set_cons_succ]
                refine wpAnyH_ready (rs := [3]) (by kernel_rfl) (by simp) ?_
                refine AllReadyH.cons rfl (fun K' hK => ?_) AllReadyH.nil
                refine if_yes (by rfl) ?_
                try simp only [Act.put, List.setIfInBounds_toArray, List.set_cons_zero, List.set_cons_succ]
                refine wp_appI _ (.tmp 71) (.tmp 72) rfl be 0 (.slice (some ⟨be, 0, none⟩) 0 0) [] rfl TE (.slice a2 0 c2) ([] : List Int) rfl ((HV.out.ext (ext_trans E0 X))) (by first | (simp; done) | (simp; omega)) (by omega) ?_
                intro v' u7 hv' hg'
                rw [List.nil_append] at hv'
                obtain ⟨an, cn, rfl, -⟩ := hv'.open
                have TN := hv'
                have TNl : ∀ q, (Value.slice an (0) cn).ownBlock = some q → q < u7.heap.size := fun q hq => (TN.lt q hq).2
                have TL := TL.far hg' (fun q hq e => by simp [Value.ownBlock] at hq e; omega)
                have X := ext_grown X hg' (fun q hq => by simp [Value.ownBlock] at hq; omega)
                have qu7 : ws.heap.size ≤ u7.heap.size := X.size
                have hbe2 : be ≤ u7.heap.size := by have := hg'.size; omega
                clear hg' hv' TE
                refine hK.out _ _ ?_ (fun hHeld => ?_)
                · exact ⟨(A0.ext X).cell0 rfl, (A0.ext X).cell0 rfl, (X.cell (by exact hh)).trans x2⟩
                clear hK K'
                try simp only [Act.put, List.setIfInBounds_toArray, List.set_cons_zero, List.set_cons_succ]
                refine wpAnyH_ready (rs := [6]) (by kernel_rfl) (by simp) ?_
                refine AllReadyH.cons rfl (fun K' hK => ?_) AllReadyH.nil
                refine if_yes (by rfl) ?_
                try simp only [Act.put, List.setIfInBounds_toArray, List.set_cons_zero, List.set_cons_succ]
                refine wp_appI _ (.tmp 73) (.tmp 75) rfl be 0 (.slice an 0 cn) ([] : List Int) rfl TN (.slice (some ⟨bl, 0, none⟩) 1 1) [(k : Int)] rfl (TL.base (Nat.zero_le _)) (by first | (simp; done) | (simp; omega)) (by omega) ?_
                intro v' u8 hv' hg'
                obtain ⟨am, cm, rfl, -⟩ := hv'.open
                have he1 : (([] : List Int) ++ [(k : Int)]).length = 1 := by simp
                rw [he1] at hv'
                try rw [he1]
                have TM := hv'
                have X := ext_grown X hg' (fun q hq => by have := (TN.lt q hq).1; omega)
                have qu8 : ws.heap.size ≤ u8.heap.size := X.size
                clear hg' hv' he1
                refine hK.out _ _ ?_ (fun hHeld => ?_)
                · exact ⟨(A0.ext X).cell0 rfl, (A0.ext X).cell0 rfl, (X.cell (by exact hh)).trans x2⟩
                clear hK K'
                try simp only [Act.put, List.setIfInBounds_toArray, List.set_cons_zero, List.set_cons_succ]
                refine wpAnyH_ready (rs := [16]) (by kernel_rfl) (by simp) ?_
                refine AllReadyH.cons rfl (fun K' hK => ?_) AllReadyH.nil
                refine if_yes (by rfl) ?_
                try simp only [Act.put, List.setIfInBounds_toArray, List.set_cons_zero, List.set_cons_succ]
                go_simp
                refine (ih (([] : List Int) ++ [(k : Int)]) sm _ _ u8 (by first | (simp; omega) | (have h := hd; simp only [List.length_nil, List.nil_append, List.length_singleton] at h ⊢; omega)) (hrange k hlk) (HP.out.ext (ext_trans E0 X)) (TM.base (Nat.zero_le _))).mono ?_
                rintro e u9 ⟨v9, l9, rfl, hor, hl9, hb9⟩
                have hfin : Ints u9 ws.heap.size v9 l9 := by
                  rcases hor with ⟨rfl, rfl⟩ | h
                  · exact (TM.ext hb9).base (by omega)
                  · exact h.base (by omega)
                have X := ext_trans X hb9
                clear hor hb9
                go_wp2_with fail
                refine hK.out _ _ ?_ (fun hHeld => ?_)
                · exact ⟨(A0.ext X).cell0 rfl, (A0.ext X).cell0 rfl, (X.cell (by exact hh)).trans x2⟩
                clear hK K'
                try simp only [Act.put, List.setIfInBounds_toArray, List.set_cons_zero, List.set_cons_succ]
                refine wpAnyH_take (i := 17) (v := ?_) rfl (by kernel_rfl) (by kernel_rfl) (by kernel_rfl) (fun _ _ _ h => h) (Or.inl ⟨by rfl, fun w' hS' => ?_⟩) (by assumption) ?_
                rotate_left
                · (try dsimp only at hS'); go_simp; (try rw [if_pos (by omega)]); try with_reducible rfl
                try simp only [Act.put, List.getElem_toArray, List.getElem_cons_zero, List.getElem_cons_succ, List.setIfInBounds_toArray, List.set_cons_zero, List.set_cons_succ]
                refine wpAnyH_done (by kernel_rfl) ?_ _
                try simp only [Act.put, List.setIfInBounds_toArray, List.set_cons_zero, List.set_cons_succ]
                go_wp2_with fail
                go_meet
                exact ⟨l9, hfin, hl9, X⟩
            · skip
              refine if_yes (by rfl) ?_
              try simp only [Act.put, List.setIfInBounds_toArray, List.set_cons_zero, List.set_cons_succ]
              go_simp
              obtain ⟨u10, hu10, Bu10, su10, eu10⟩ := one_box D #[.int .i64 k] 3
              have TL : Ints u10 D.heap.size (.slice (some ⟨D.heap.size, 0, none⟩) 1 1) [(k : Int)] := by rw [hu10.out]; exact Ints.lit D k
              rw [← hu10.out]
              have X := ext_trans X eu10
              obtain ⟨bl, Hbl⟩ : ∃ b, Hid (b = D.heap.size) := ⟨_, rfl⟩
              rw [← Hbl.out] at TL ⊢
              have qbl : ws.heap.size ≤ bl := by rw [Hbl.out]; exact qD
              have qu10 : ws.heap.size ≤ u10.heap.size := X.size
              have TLl : bl < u10.heap.size := (TL.lt _ rfl).2
              refine hK.out _ _ ?_ (fun hHeld => ?_)
              · exact ⟨(A0.ext X).cell0 rfl, (A0.ext X).cell0 rfl, (X.cell (by exact hh)).trans x2⟩
              clear hK K'
              try simp only [Act.put, List.setIfInBounds_toArray, List.set_cons_zero, List.set_cons_succ]
              refine wpAnyH_ready (rs := [1]) (by kernel_rfl) (by simp) ?_
              refine AllReadyH.cons rfl (fun K' hK => ?_) AllReadyH.nil
              refine if_yes (by rfl) ?_
              try simp only [Act.put, List.setIfInBounds_toArray, List.set_cons_zero, List.set_cons_succ]
              go_simp
              obtain ⟨u11, hu11, Bu11, su11, eu11⟩ := one_box u10 #[] 3
              have TE : Ints u11 u10.heap.size (.slice (some ⟨u10.heap.size, 0, none⟩) 0 0) [] := Ints.ofBox Bu11 (Nat.le_refl _)
              rw [← hu11.out]
              have X := ext_trans X eu11
              have TL := TL.ext eu11
              obtain ⟨be, Hbe⟩ : ∃ b, Hid (b = u10.heap.size) := ⟨_, rfl⟩
              rw [← Hbe.out] at TE ⊢
              have qbe : ws.heap.size ≤ be := by rw [Hbe.out]; exact qu10
              have qu11 : ws.heap.size ≤ u11.heap.size := X.size
              have hbe2 : be ≤ u11.heap.size := Nat.le_of_lt (TE.lt be rfl).2
              have hne : bl ≠ be := by have := TLl; rw [Hbe.out]; omega
              refine hK.out _ _ ?_ (fun hHeld => ?_)
              · exact ⟨(A0.ext X).cell0 rfl, (A0.ext X).cell0 rfl, (X.cell (by exact hh)).trans x2⟩
              clear hK K'
              try simp only [Act.put, List.setIfInBounds_toArray, List.set_cons_zero, List.set_cons_succ]
              refine wpAnyH_ready (rs := [3]) (by kernel_rfl) (by simp) ?_
              refine AllReadyH.cons rfl (fun K' hK => ?_) AllReadyH.nil
              refine if_yes (by rfl) ?_
              try simp only [Act.put, List.setIfInBounds_toArray, List.set_cons_zero, List.set_cons_succ]
              refine wp_appI _ (.tmp 71) (.tmp 72) rfl be 0 (.slice (some ⟨be, 0, none⟩) 0 0) [] rfl TE (.slice a2 0 c2) ([] : List Int) rfl ((HV.out.ext (ext_trans E0 X))) (by first | (simp; done) | (simp; omega)) (by omega) ?_
              intro v' u12 hv' hg'
              rw [List.nil_append] at hv'
              obtain ⟨an, cn, rfl, -⟩ := hv'.open
              have TN := hv'
              have TNl : ∀ q, (Value.slice an (0) cn).ownBlock = some q → q < u12.heap.size := fun q hq => (TN.lt q hq).2
              have TL := TL.far hg' (fun q hq e => by simp [Value.ownBlock] at hq e; omega)
              have X := ext_grown X hg' (fun q hq => by simp [Value.ownBlock] at hq; omega)
              have qu12 : ws.heap.size ≤ u12.heap.size := X.size
              have hbe2 : be ≤ u12.heap.size := by have := hg'.size; omega
              clear hg' hv' TE
              refine hK.out _ _ ?_ (fun hHeld => ?_)
              · exact ⟨(A0.ext X).cell0 rfl, (A0.ext X).cell0 rfl, (X.cell (by exact hh)).trans x2⟩
              clear hK K'
              try simp only [Act.put, List.setIfInBounds_toArray, List.set_cons_zero, List.set_cons_succ]
              refine wpAnyH_ready (rs := [6]) (by kernel_rfl) (by simp) ?_
              refine AllReadyH.cons rfl (fun K' hK => ?_) AllReadyH.nil
              refine if_yes (by rfl) ?_
              try simp only [Act.put, List.setIfInBounds_toArray, List.set_cons_zero, List.set_cons_succ]
              refine wp_appI _ (.tmp 73) (.tmp 75) rfl be 0 (.slice an 0 cn) ([] : List Int) rfl TN (.slice (some ⟨bl, 0, none⟩) 1 1) [(k : Int)] rfl (TL.base (Nat.zero_le _)) (by first | (simp; done) | (simp; omega)) (by omega) ?_
              intro v' u13 hv' hg'
              obtain ⟨am, cm, rfl, -⟩ := hv'.open
              have he1 : (([] : List Int) ++ [(k : Int)]).length = 1 := by simp
              rw [he1] at hv'
              try rw [he1]
              have TM := hv'
              have X := ext_grown X hg' (fun q hq => by have := (TN.lt q hq).1; omega)
              have qu13 : ws.heap.size ≤ u13.heap.size := X.size
              clear hg' hv' he1
              refine hK.out _ _ ?_ (fun hHeld => ?_)
              · exact ⟨(A0.ext X).cell0 rfl, (A0.ext X).cell0 rfl, (X.cell (by exact hh)).trans x2⟩
              clear hK K'
              try simp only [Act.put, List.setIfInBounds_toArray, List.set_cons_zero, List.set_cons_succ]
              refine wpAnyH_ready (rs := [16]) (by kernel_rfl) (by simp) ?_
              refine AllReadyH.cons rfl (fun K' hK => ?_) AllReadyH.nil
              refine if_yes (by rfl) ?_
              try simp only [Act.put, List.setIfInBounds_toArray, List.set_cons_zero, List.set_cons_succ]
              go_simp
              refine (ih (([] : List Int) ++ [(k : Int)]) sm _ _ u13 (by first | (simp; omega) | (have h := hd; simp only [List.length_nil, List.nil_append, List.length_singleton] at h ⊢; omega)) (hrange k hlk) (HP.out.ext (ext_trans E0 X)) (TM.base (Nat.zero_le _))).mono ?_
              rintro e u14 ⟨v9, l9, rfl, hor, hl9, hb9⟩
              have hfin : Ints u14 ws.heap.size v9 l9 := by
                rcases hor with ⟨rfl, rfl⟩ | h
                · exact (TM.ext hb9).base (by omega)
                · exact h.base (by omega)
              have X := ext_trans X hb9
              clear hor hb9
              go_wp2_with fail
              refine hK.out _ _ ?_ (fun hHeld => ?_)
              · exact ⟨(A0.ext X).cell0 rfl, (A0.ext X).cell0 rfl, (X.cell (by exact hh)).trans x2⟩
              clear hK K'
              try simp only [Act.put, List.setIfInBounds_toArray, List.set_cons_zero, List.set_cons_succ]
              refine wpAnyH_take (i := 17) (v := ?_) rfl (by kernel_rfl) (by kernel_rfl) (by kernel_rfl) (fun _ _ _ h => h) (Or.inl ⟨by rfl, fun w' hS' => ?_⟩) (by assumption) ?_
              rotate_left
              · (try dsimp only at hS'); go_simp; (try rw [if_pos (by omega)]); try with_reducible rfl
              try simp only [Act.put, List.getElem_toArray, List.getElem_cons_zero, List.getElem_cons_succ, List.setIfInBounds_toArray, List.set_cons_zero, List.set_cons_succ]
              refine wpAnyH_done (by kernel_rfl) ?_ _
              try simp only [Act.put, List.setIfInBounds_toArray, List.set_cons_zero, List.set_cons_succ]
              go_wp2_with fail
              go_meet
              exact ⟨l9, hfin, hl9, X⟩
          rename World => wt
          obtain ⟨l9, hr9, hl9, hb9⟩ := hcut
          have hb := ext_trans hb hb9
          have R9 := Lib.hid hr9
          obtain ⟨a9, c9, rfl, -⟩ := hr9.open
          clear hb9 hr9 x2 hh hh2 A0
          by_cases hl0 : 0 < l9.length
          · have hl0i : (0 : Int) < (l9.length : Int) := by omega
            go_wp2_with fail
            go_ret
            exact ⟨_, l9, rfl, .inr (R9.out.base (by have := E.size; have := hb.size; omega)), hl9, ext_trans E hb⟩
          · have hl0i : ¬ ((0 : Int) < (l9.length : Int)) := by omega
            go_wp2_with fail
            go_roundg (p.bs.length - (k+1))
            case rel => exact ⟨k+1, by omega, rfl, by go_num, hb⟩
            case measure => have := Hk.out; omega
        · have hrp : 0 < row.length := by omega
          have hrd : decide ((row.length : Int) > 0) = true := decide_eq_true (by omega)
          have hwm : IntKind.i64.wrap ((row.length : Int) - 1) = ((row.length - 1 : Nat) : Int) := by rw [IntWalk.i64_in _ (by omega)]; omega
          obtain ⟨g, ha, _, hg, _, cx⟩ := (HV.out.ext E1).at_ (j := row.length - 1) (by omega)
          have i1 := Hr.out (row.length - 1) (by omega)
          subst ha
          obtain ⟨x, hx⟩ : ∃ x : Nat, row.getD (row.length - 1) 0 = (x : Int) := ⟨(row.getD (row.length - 1) 0).toNat, by omega⟩
          rw [hx] at cx i1
          have hxl : x < p.bs.length := by omega
          obtain ⟨h, hh, _, hhl, _, _, x1, _⟩ := (HP.out.ext E1).at_ hxl
          obtain ⟨_, he, _, _, _, y0, _, _⟩ := (HP.out.ext E1).at_ hlk
          have hh2 : a1 = some ⟨h, 0, none⟩ := hh
          subst hh
          cases he
          obtain ⟨t, Ht⟩ : ∃ t, Hid (t = (p.bs.getD x Bd.z).t) := ⟨_, rfl⟩
          obtain ⟨f, Hf⟩ : ∃ t, Hid (t = (p.bs.getD k Bd.z).f) := ⟨_, rfl⟩
          rw [← Ht.out] at x1
          rw [← Hf.out] at y0
          have hr1 : row.length - 1 < row.length := by omega
          clear hx i1 hr0 hh2
          by_cases htf : t = f
          · have he : (t != f) = false := by simp [htf]
            clear htf
            go_wp2_with fail
            go_quiet (fail)
            clear hwm cx x1 y0 hr1 hhl hg
            obtain ⟨ws, hws⟩ : ∃ ws, Hid (ws = wr.drewN nq) := ⟨_, rfl⟩
            have hb := ext_trans hb (ext_drewR wr nq)
            have A0 := A1.ext (ext_drewR wr nq)
            rw [← hws.out] at hb A0 ⊢
            have E0 := ext_trans E hb
            have qws : w1.heap.size ≤ ws.heap.size := hb.size
            clear rc0 rz0 rl0 A1
            obtain ⟨rc0, rz0⟩ := (A0).rules; have rl0 := (A0).lt
            obtain ⟨m9, Hm9⟩ : ∃ m, Hid (m = (p.bs.getD k Bd.z).m) := ⟨_, rfl⟩
            obtain ⟨h, hh1, _, hh, _, _, _, x2⟩ := (HP.out.ext E0).at_ hlk
            rw [← Hm9.out] at x2
            cases hh1
            have hh2 : True := trivial
            obtain ⟨sm, Hsm⟩ : ∃ s, Hid (s = IntKind.i64.wrap (sum + m9)) := ⟨_, rfl⟩
            have hwsm : IntKind.i64.wrap (sum + m9) = sm := Hsm.out.symm
            go_upto_region 9 with fail
            go_cut [10] (fun v10 wx => OutRow ws many v10 wx)
            case first =>
              refine wp_region_held_drew (S := fun w' => w'.cell? ⟨w.heap.size, 0, none⟩ = some (Value.int .i64 p.pts) ∧ w'.cell? ⟨w.heap.size, 1, none⟩ = some (Value.slice (some ⟨h, 0, none⟩) p.bs.length c1) ∧ w'.cell? ⟨h, k * 3 + 2, none⟩ = some (Value.int .i64 m9)) (by kernel_rfl) ?_ (fun hHeld => ?_)
              · exact ⟨(A0.drew).cell0 rfl, (A0.drew).cell0 rfl, x2⟩
              have X := ext_drew (ext_refl ws)
              obtain ⟨D, hD⟩ : ∃ D, Hid (D = ws.drew) := ⟨_, rfl⟩
              have qD : ws.heap.size ≤ D.heap.size := by rw [hD.out]; exact Nat.le_refl _
              rw [← hD.out] at X hHeld ⊢
              try simp only [Act.put, List.setIfInBounds_toArray, List.set_cons_zero, List.set_cons_succ]
              refine wpAnyH_take (i := 0) (v := ?_) rfl (by kernel_rfl) (by kernel_rfl) (by kernel_rfl) (fun _ _ _ h => h) (Or.inl ⟨by rfl, fun w' hS' => ?_⟩) (by assumption) ?_
              rotate_left
              · (try dsimp only at hS'); go_simp; (try rw [if_pos (by omega)]); try with_reducible rfl
              try simp only [Act.put, List.getElem_toArray, List.getElem_cons_zero, List.getElem_cons_succ, List.setIfInBounds_toArray, List.set_cons_zero, List.set_cons_succ]
              refine wpAnyH_take (i := 2) (v := ?_) rfl (by kernel_rfl) (by kernel_rfl) (by kernel_rfl) (fun _ _ _ h => h) (Or.inl ⟨by rfl, fun w' hS' => ?_⟩) (by assumption) ?_
              rotate_left
              · (try dsimp only at hS'); go_simp; (try rw [if_pos (by omega)]); try with_reducible rfl
              try simp only [Act.put, List.getElem_toArray, List.getElem_cons_zero, List.getElem_cons_succ, List.setIfInBounds_toArray, List.set_cons_zero, List.set_cons_succ]
              refine wpAnyH_take (i := 4) (v := ?_) rfl (by kernel_rfl) (by kernel_rfl) (by kernel_rfl) (fun _ _ _ h => h) (Or.inl ⟨by rfl, fun w' hS' => ?_⟩) (by assumption) ?_
              rotate_left
              · (try dsimp only at hS'); go_simp; (try rw [if_pos (by omega)]); try with_reducible rfl
              try simp only [Act.put, List.getElem_toArray, List.getElem_cons_zero, List.getElem_cons_succ, List.setIfInBounds_toArray, List.set_cons_zero, List.set_cons_succ]
              refine wpAnyH_take (i := 7) (v := ?_) rfl (by kernel_rfl) (by kernel_rfl) (by kernel_rfl) (fun _ _ _ h => h) (Or.inl ⟨by rfl, fun w' hS' => ?_⟩) (by assumption) ?_
              rotate_left
              · (try dsimp only at hS'); go_simp; (try rw [if_pos (by omega)]); try with_reducible rfl
              try simp only [Act.put, List.getElem_toArray, List.getElem_cons_zero, List.getElem_cons_succ, List.setIfInBounds_toArray, List.set_cons_zero, List.set_cons_succ]
              refine wpAnyH_take (i := 8) (v := ?_) rfl (by kernel_rfl) (by kernel_rfl) (by kernel_rfl) (fun _ _ _ h => h) (Or.inl ⟨by rfl, fun w' hS' => ?_⟩) (by assumption) ?_
              rotate_left
              · (try dsimp only at hS'); go_simp; (try rw [if_pos (by omega)]); try with_reducible rfl
              try simp only [Act.put, List.getElem_toArray, List.getElem_cons_zero, List.getElem_cons_succ, List.setIfInBounds_toArray, List.set_cons_zero, List.set_cons_succ]
              refine wpAnyH_take (i := 9) (v := ?_) rfl (by kernel_rfl) (by kernel_rfl) (by kernel_rfl) (fun _ _ _ h => h) (Or.inl ⟨by rfl, fun w' hS' => ?_⟩) (by assumption) ?_
              rotate_left
              · (try dsimp only at hS'); go_simp; (try rw [if_pos (by omega)]); try with_reducible rfl
              try simp only [Act.put, List.getElem_toArray, List.getElem_cons_zero, List.getElem_cons_succ, List.setIfInBounds_toArray, List.set_cons_zero, List.set_cons_succ]
              refine wpAnyH_take (i := 10) (v := ?_) rfl (by kernel_rfl) (by kernel_rfl) (by kernel_rfl) (fun _ _ _ h => h) (Or.inl ⟨by rfl, fun w' hS' => ?_⟩) (by assumption) ?_
              rotate_left
              · (try dsimp only at hS'); go_simp; (try rw [if_pos (by omega)]); try with_reducible rfl
              try simp only [Act.put, List.getElem_toArray, List.getElem_cons_zero, List.getElem_cons_succ, List.setIfInBounds_toArray, List.set_cons_zero, List.set_cons_succ]
              refine wpAnyH_take (i := 11) (v := ?_) rfl (by kernel_rfl) (by kernel_rfl) (by kernel_rfl) (fun _ _ _ h => h) (Or.inl ⟨by rfl, fun w' hS' => ?_⟩) (by assumption) ?_
              rotate_left
              · (try dsimp only at hS'); go_simp; (try rw [if_pos (by omega)]); try with_reducible rfl
              try simp only [Act.put, List.getElem_toArray, List.getElem_cons_zero, List.getElem_cons_succ, List.setIfInBounds_toArray, List.set_cons_zero, List.set_cons_succ]
              refine wpAnyH_take (i := 12) (v := ?_) rfl (by kernel_rfl) (by kernel_rfl) (by kernel_rfl) (fun _ _ _ h => h) (Or.inl ⟨by rfl, fun w' hS' => ?_⟩) (by assumption) ?_
              rotate_left
              · (try dsimp only at hS'); go_simp; (try rw [if_pos (by omega)]); try with_reducible rfl
              try simp only [Act.put, List.getElem_toArray, List.getElem_cons_zero, List.getElem_cons_succ, List.setIfInBounds_toArray, List.set_cons_zero, List.set_cons_succ]
              refine wpAnyH_take (i := 13) (v := ?_) rfl (by kernel_rfl) (by kernel_rfl) (by kernel_rfl) (fun _ _ _ h => h) (Or.inl ⟨by rfl, fun w' hS' => ?_⟩) (by assumption) ?_
              rotate_left
              · (try dsimp only at hS'); go_simp; (try rw [if_pos (by omega)]); try with_reducible rfl
              try simp only [Act.put, List.getElem_toArray, List.getElem_cons_zero, List.getElem_cons_succ, List.setIfInBounds_toArray, List.set_cons_zero, List.set_cons_succ]
              refine wpAnyH_take (i := 14) (v := ?_) rfl (by kernel_rfl) (by kernel_rfl) (by kernel_rfl) (fun _ _ _ h => h) (Or.inl ⟨by rfl, fun w' hS' => ?_⟩) (by assumption) ?_
              rotate_left
              · (try dsimp only at hS'); go_simp; (try rw [if_pos (by omega)]); try with_reducible rfl
              try simp only [Act.put, List.getElem_toArray, List.getElem_cons_zero, List.getElem_cons_succ, List.setIfInBounds_toArray, List.set_cons_zero, List.set_cons_succ]
              refine wpAnyH_take (i := 15) (v := ?_) rfl (by kernel_rfl) (by kernel_rfl) (by kernel_rfl) (fun _ _ _ h => h) (Or.inl ⟨by rfl, fun w' hS' => ?_⟩) (by assumption) ?_
              rotate_left
              · (try dsimp only at hS'); go_simp; (try rw [if_pos (by omega)]); try with_reducible rfl
              try simp only [Act.put, List.getElem_toArray, List.getElem_cons_zero, List.getElem_cons_succ, List.setIfInBounds_toArray, List.set_cons_zero, List.set_cons_succ]
              refine wpAnyH_ready (rs := [1, 5]) (by kernel_rfl) (by simp) ?_
              refine AllReadyH.cons rfl (fun K' hK => ?_) (AllReadyH.cons rfl (fun K' hK => ?_) AllReadyH.nil)
              · skip
                refine if_yes (by rfl) ?_
                try simp only [Act.put, List.setIfInBounds_toArray, List.set_cons_zero, List.set_cons_succ]
                go_simp
                obtain ⟨u1, hu1, Bu1, su1, eu1⟩ := one_box D #[] 3
                have TE : Ints u1 D.heap.size (.slice (some ⟨D.heap.size, 0, none⟩) 0 0) [] := Ints.ofBox Bu1 (Nat.le_refl _)
                rw [← hu1.out]
                have X := ext_trans X eu1
                obtain ⟨be, Hbe⟩ : ∃ b, Hid (b = D.heap.size) := ⟨_, rfl⟩
                rw [← Hbe.out] at TE ⊢
                have qbe : ws.heap.size ≤ be := by rw [Hbe.out]; exact qD
                have qu1 : ws.heap.size ≤ u1.heap.size := X.size
                have hbe2 : be ≤ u1.heap.size := Nat.le_of_lt (TE.lt be rfl).2
                have TEl : be < u1.heap.size := (TE.lt _ rfl).2
                refine hK.out _ _ ?_ (fun hHeld => ?_)
                · exact ⟨(A0.ext X).cell0 rfl, (A0.ext X).cell0 rfl, (X.cell (by exact hh)).trans x2⟩
                clear hK K'
                try simp only [Act.put, List.setIfInBounds_toArray, List.set_cons_zero, List.set_cons_succ]
                refine wpAnyH_ready (rs := [3, 5]) (by kernel_rfl) (by simp) ?_
                refine AllReadyH.cons rfl (fun K' hK => ?_) (AllReadyH.cons rfl (fun K' hK => ?_) AllReadyH.nil)
                · skip
                  refine if_yes (by rfl) ?_
                  try simp only [Act.put, List.setIfInBounds_toArray, List.set_cons_zero, List.set_cons_succ]
                  refine wp_appI _ (.tmp 71) (.tmp 72) rfl be 0 (.slice (some ⟨be, 0, none⟩) 0 0) [] rfl TE (.slice (some ⟨g, 0, none⟩) row.length c2) row rfl ((HV.out.ext (ext_trans E0 X))) (by first | (simp; done) | (simp; omega)) (by omega) ?_
                  intro v' u2 hv' hg'
                  rw [List.nil_append] at hv'
                  obtain ⟨an, cn, rfl, -⟩ := hv'.open
                  have TN := hv'
                  have TNl : ∀ q, (Value.slice an (row.length) cn).ownBlock = some q → q < u2.heap.size := fun q hq => (TN.lt q hq).2
                  have X := ext_grown X hg' (fun q hq => by simp [Value.ownBlock] at hq; omega)
                  have qu2 : ws.heap.size ≤ u2.heap.size := X.size
                  have hbe2 : be ≤ u2.heap.size := by have := hg'.size; omega
                  clear hg' hv' TE
                  refine hK.out _ _ ?_ (fun hHeld => ?_)
                  · exact ⟨(A0.ext X).cell0 rfl, (A0.ext X).cell0 rfl, (X.cell (by exact hh)).trans x2⟩
                  clear hK K'
                  try simp only [Act.put, List.setIfInBounds_toArray, List.set_cons_zero, List.set_cons_succ]
                  refine wpAnyH_ready (rs := [5]) (by kernel_rfl) (by simp) ?_
                  refine AllReadyH.cons rfl (fun K' hK => ?_) AllReadyH.nil
                  refine if_yes (by rfl) ?_
                  try simp only [Act.put, List.setIfInBounds_toArray, List.set_cons_zero, List.set_cons_succ]
                  go_simp
                  obtain ⟨u3, hu3, Bu3, su3, eu3⟩ := one_box u2 #[.int .i64 k] 3
                  have TL : Ints u3 u2.heap.size (.slice (some ⟨u2.heap.size, 0, none⟩) 1 1) [(k : Int)] := by rw [hu3.out]; exact Ints.lit u2 k
                  rw [← hu3.out]
                  have X := ext_trans X eu3
                  have TN := TN.ext eu3
                  obtain ⟨bl, Hbl⟩ : ∃ b, Hid (b = u2.heap.size) := ⟨_, rfl⟩
                  rw [← Hbl.out] at TL ⊢
                  have qbl : ws.heap.size ≤ bl := by rw [Hbl.out]; exact qu2
                  have qu3 : ws.heap.size ≤ u3.heap.size := X.size
                  have hbe2 : be ≤ u3.heap.size := by have := (eu3).size; omega
                  have hnel : ∀ q, (Value.slice an (row.length) cn).ownBlock = some q → q ≠ bl := fun q hq => by have := TNl q hq; rw [Hbl.out]; omega
                  refine hK.out _ _ ?_ (fun hHeld => ?_)
                  · exact ⟨(A0.ext X).cell0 rfl, (A0.ext X).cell0 rfl, (X.cell (by exact hh)).trans x2⟩
                  clear hK K'
                  try simp only [Act.put, List.setIfInBounds_toArray, List.set_cons_zero, List.set_cons_succ]
                  refine wpAnyH_ready (rs := [6]) (by kernel_rfl) (by simp) ?_
                  refine AllReadyH.cons rfl (fun K' hK => ?_) AllReadyH.nil
                  refine if_yes (by rfl) ?_
                  try simp only [Act.put, List.setIfInBounds_toArray, List.set_cons_zero, List.set_cons_succ]
                  refine wp_appI _ (.tmp 73) (.tmp 75) rfl be 0 (.slice an row.length cn) row rfl TN (.slice (some ⟨bl, 0, none⟩) 1 1) [(k : Int)] rfl (TL.base (Nat.zero_le _)) (by first | (simp; done) | (simp; omega)) (by omega) ?_
                  intro v' u4 hv' hg'
                  obtain ⟨am, cm, rfl, -⟩ := hv'.open
                  have he1 : (row ++ [(k : Int)]).length = row.length + 1 := by simp
                  rw [he1] at hv'
                  try rw [he1]
                  have TM := hv'
                  have X := ext_grown X hg' (fun q hq => by have := (TN.lt q hq).1; omega)
                  have qu4 : ws.heap.size ≤ u4.heap.size := X.size
                  clear hg' hv' he1
                  refine hK.out _ _ ?_ (fun hHeld => ?_)
                  · exact ⟨(A0.ext X).cell0 rfl, (A0.ext X).cell0 rfl, (X.cell (by exact hh)).trans x2⟩
                  clear hK K'
                  try simp only [Act.put, List.setIfInBounds_toArray, List.set_cons_zero, List.set_cons_succ]
                  refine wpAnyH_ready (rs := [16]) (by kernel_rfl) (by simp) ?_
                  refine AllReadyH.cons rfl (fun K' hK => ?_) AllReadyH.nil
                  refine if_yes (by rfl) ?_
                  try simp only [Act.put, List.setIfInBounds_toArray, List.set_cons_zero, List.set_cons_succ]
                  go_simp
                  refine (ih (row ++ [(k : Int)]) sm _ _ u4 (by first | (simp; omega) | (have h := hd; simp only [List.length_nil, List.nil_append, List.length_singleton] at h ⊢; omega)) (hrange k hlk) (HP.out.ext (ext_trans E0 X)) (TM.base (Nat.zero_le _))).mono ?_
                  rintro e u5 ⟨v9, l9, rfl, hor, hl9, hb9⟩
                  have hfin : Ints u5 ws.heap.size v9 l9 := by
                    rcases hor with ⟨rfl, rfl⟩ | h
                    · exact (TM.ext hb9).base (by omega)
                    · exact h.base (by omega)
                  have X := ext_trans X hb9
                  clear hor hb9
                  go_wp2_with fail
                  refine hK.out _ _ ?_ (fun hHeld => ?_)
                  · exact ⟨(A0.ext X).cell0 rfl, (A0.ext X).cell0 rfl, (X.cell (by exact hh)).trans x2⟩
                  clear hK K'
                  try simp only [Act.put, List.setIfInBounds_toArray, List.set_cons_zero, List.set_cons_succ]
                  refine wpAnyH_take (i := 17) (v := ?_) rfl (by kernel_rfl) (by kernel_rfl) (by kernel_rfl) (fun _ _ _ h => h) (Or.inl ⟨by rfl, fun w' hS' => ?_⟩) (by assumption) ?_
                  rotate_left
                  · (try dsimp only at hS'); go_simp; (try rw [if_pos (by omega)]); try with_reducible rfl
                  try simp only [Act.put, List.getElem_toArray, List.getElem_cons_zero, List.getElem_cons_succ, List.setIfInBounds_toArray, List.set_cons_zero, List.set_cons_succ]
                  refine wpAnyH_done (by kernel_rfl) ?_ _
                  try simp only [Act.put, List.setIfInBounds_toArray, List.set_cons_zero, List.set_cons_succ]
                  go_wp2_with fail
                  go_meet
                  exact ⟨l9, hfin, hl9, X⟩
                · skip
                  refine if_yes (by rfl) ?_
                  try simp only [Act.put, List.setIfInBounds_toArray, List.set_cons_zero, List.set_cons_succ]
                  go_simp
                  obtain ⟨u6, hu6, Bu6, su6, eu6⟩ := one_box u1 #[.int .i64 k] 3
                  have TL : Ints u6 u1.heap.size (.slice (some ⟨u1.heap.size, 0, none⟩) 1 1) [(k : Int)] := by rw [hu6.out]; exact Ints.lit u1 k
                  rw [← hu6.out]
                  have X := ext_trans X eu6
                  have TE := TE.ext eu6
                  obtain ⟨bl, Hbl⟩ : ∃ b, Hid (b = u1.heap.size) := ⟨_, rfl⟩
                  rw [← Hbl.out] at TL ⊢
                  have qbl : ws.heap.size ≤ bl := by rw [Hbl.out]; exact qu1
                  have qu6 : ws.heap.size ≤ u6.heap.size := X.size
                  have hbe2 : be ≤ u6.heap.size := by have := (eu6).size; omega
                  have hne : bl ≠ be := by have := TEl; rw [Hbl.out]; omega
                  refine hK.out _ _ ?_ (fun hHeld => ?_)
                  · exact ⟨(A0.ext X).cell0 rfl, (A0.ext X).cell0 rfl, (X.cell (by exact hh)).trans x2⟩
                  clear hK K'
                  try simp only [Act.put, List.setIfInBounds_toArray, List.set_cons_zero, List.set_cons_succ]
                  refine wpAnyH_ready (rs := [3]) (by kernel_rfl) (by simp) ?_
                  refine AllReadyH.cons rfl (fun K' hK => ?_) AllReadyH.nil
                  refine if_yes (by rfl) ?_
                  try simp only [Act.put, List.setIfInBounds_toArray, List.set_cons_zero, List.set_cons_succ]
                  refine wp_appI _ (.tmp 71) (.tmp 72) rfl be 0 (.slice (some ⟨be, 0, none⟩) 0 0) [] rfl TE (.slice (some ⟨g, 0, none⟩) row.length c2) row rfl ((HV.out.ext (ext_trans E0 X))) (by first | (simp; done) | (simp; omega)) (by omega) ?_
                  intro v' u7 hv' hg'
                  rw [List.nil_append] at hv'
                  obtain ⟨an, cn, rfl, -⟩ := hv'.open
                  have TN := hv'
                  have TNl : ∀ q, (Value.slice an (row.length) cn).ownBlock = some q → q < u7.heap.size := fun q hq => (TN.lt q hq).2
                  have TL := TL.far hg' (fun q hq e => by simp [Value.ownBlock] at hq e; omega)
                  have X := ext_grown X hg' (fun q hq => by simp [Value.ownBlock] at hq; omega)
                  have qu7 : ws.heap.size ≤ u7.heap.size := X.size
                  have hbe2 : be ≤ u7.heap.size := by have := hg'.size; omega
                  clear hg' hv' TE
                  refine hK.out _ _ ?_ (fun hHeld => ?_)
                  · exact ⟨(A0.ext X).cell0 rfl, (A0.ext X).cell0 rfl, (X.cell (by exact hh)).trans x2⟩
                  clear hK K'
                  try simp only [Act.put, List.setIfInBounds_toArray, List.set_cons_zero, List.set_cons_succ]
                  refine wpAnyH_ready (rs := [6]) (by kernel_rfl) (by simp) ?_
                  refine AllReadyH.cons rfl (fun K' hK => ?_) AllReadyH.nil
                  refine if_yes (by rfl) ?_
                  try simp only [Act.put, List.setIfInBounds_toArray, List.set_cons_zero, List.set_cons_succ]
                  refine wp_appI _ (.tmp 73) (.tmp 75) rfl be 0 (.slice an row.length cn) row rfl TN (.slice (some ⟨bl, 0, none⟩) 1 1) [(k : Int)] rfl (TL.base (Nat.zero_le _)) (by first | (simp; done) | (simp; omega)) (by omega) ?_
                  intro v' u8 hv' hg'
                  obtain ⟨am, cm, rfl, -⟩ := hv'.open
                  have he1 : (row ++ [(k : Int)]).length = row.length + 1 := by simp
                  rw [he1] at hv'
                  try rw [he1]
                  have TM := hv'
                  have X := ext_grown X hg' (fun q hq => by have := (TN.lt q hq).1; omega)
                  have qu8 : ws.heap.size ≤ u8.heap.size := X.size
                  clear hg' hv' he1
                  refine hK.out _ _ ?_ (fun hHeld => ?_)
                  · exact ⟨(A0.ext X).cell0 rfl, (A0.ext X).cell0 rfl, (X.cell (by exact hh)).trans x2⟩
                  clear hK K'
                  try simp only [Act.put, List.setIfInBounds_toArray, List.set_cons_zero, List.set_cons_succ]
                  refine wpAnyH_ready (rs := [16]) (by kernel_rfl) (by simp) ?_
                  refine AllReadyH.cons rfl (fun K' hK => ?_) AllReadyH.nil
                  refine if_yes (by rfl) ?_
                  try simp only [Act.put, List.setIfInBounds_toArray, List.set_cons_zero, List.set_cons_succ]
                  go_simp
                  refine (ih (row ++ [(k : Int)]) sm _ _ u8 (by first | (simp; omega) | (have h := hd; simp only [List.length_nil, List.nil_append, List.length_singleton] at h ⊢; omega)) (hrange k hlk) (HP.out.ext (ext_trans E0 X)) (TM.base (Nat.zero_le _))).mono ?_
                  rintro e u9 ⟨v9, l9, rfl, hor, hl9, hb9⟩
                  have hfin : Ints u9 ws.heap.size v9 l9 := by
                    rcases hor with ⟨rfl, rfl⟩ | h
                    · exact (TM.ext hb9).base (by omega)
                    · exact h.base (by omega)
                  have X := ext_trans X hb9
                  clear hor hb9
                  go_wp2_with fail
                  refine hK.out _ _ ?_ (fun hHeld => ?_)
                  · exact ⟨(A0.ext X).cell0 rfl, (A0.ext X).cell0 rfl, (X.cell (by exact hh)).trans x2⟩
                  clear hK K'
                  try simp only [Act.put, List.setIfInBounds_toArray, List.set_cons_zero, List.set_cons_succ]
                  refine wpAnyH_take (i := 17) (v := ?_) rfl (by kernel_rfl) (by kernel_rfl) (by kernel_rfl) (fun _ _ _ h => h) (Or.inl ⟨by rfl, fun w' hS' => ?_⟩) (by assumption) ?_
                  rotate_left
                  · (try dsimp only at hS'); go_simp; (try rw [if_pos (by omega)]); try with_reducible rfl
                  try simp only [Act.put, List.getElem_toArray, List.getElem_cons_zero, List.getElem_cons_succ, List.setIfInBounds_toArray, List.set_cons_zero, List.set_cons_succ]
                  refine wpAnyH_done (by kernel_rfl) ?_ _
                  try simp only [Act.put, List.setIfInBounds_toArray, List.set_cons_zero, List.set_cons_succ]
                  go_wp2_with fail
                  go_meet
                  exact ⟨l9, hfin, hl9, X⟩
              · skip
                refine if_yes (by rfl) ?_
                try simp only [Act.put, List.setIfInBounds_toArray, List.set_cons_zero, List.set_cons_succ]
                go_simp
                obtain ⟨u10, hu10, Bu10, su10, eu10⟩ := one_box D #[.int .i64 k] 3
                have TL : Ints u10 D.heap.size (.slice (some ⟨D.heap.size, 0, none⟩) 1 1) [(k : Int)] := by rw [hu10.out]; exact Ints.lit D k
                rw [← hu10.out]
                have X := ext_trans X eu10
                obtain ⟨bl, Hbl⟩ : ∃ b, Hid (b = D.heap.size) := ⟨_, rfl⟩
                rw [← Hbl.out] at TL ⊢
                have qbl : ws.heap.size ≤ bl := by rw [Hbl.out]; exact qD
                have qu10 : ws.heap.size ≤ u10.heap.size := X.size
                have TLl : bl < u10.heap.size := (TL.lt _ rfl).2
                refine hK.out _ _ ?_ (fun hHeld => ?_)
                · exact ⟨(A0.ext X).cell0 rfl, (A0.ext X).cell0 rfl, (X.cell (by exact hh)).trans x2⟩
                clear hK K'
                try simp only [Act.put, List.setIfInBounds_toArray, List.set_cons_zero, List.set_cons_succ]
                refine wpAnyH_ready (rs := [1]) (by kernel_rfl) (by simp) ?_
                refine AllReadyH.cons rfl (fun K' hK => ?_) AllReadyH.nil
                refine if_yes (by rfl) ?_
                try simp only [Act.put, List.setIfInBounds_toArray, List.set_cons_zero, List.set_cons_succ]
                go_simp
                obtain ⟨u11, hu11, Bu11, su11, eu11⟩ := one_box u10 #[] 3
                have TE : Ints u11 u10.heap.size (.slice (some ⟨u10.heap.size, 0, none⟩) 0 0) [] := Ints.ofBox Bu11 (Nat.le_refl _)
                rw [← hu11.out]
                have X := ext_trans X eu11
                have TL := TL.ext eu11
                obtain ⟨be, Hbe⟩ : ∃ b, Hid (b = u10.heap.size) := ⟨_, rfl⟩
                rw [← Hbe.out] at TE ⊢
                have qbe : ws.heap.size ≤ be := by rw [Hbe.out]; exact qu10
                have qu11 : ws.heap.size ≤ u11.heap.size := X.size
                have hbe2 : be ≤ u11.heap.size := Nat.le_of_lt (TE.lt be rfl).2
                have hne : bl ≠ be := by have := TLl; rw [Hbe.out]; omega
                refine hK.out _ _ ?_ (fun hHeld => ?_)
                · exact ⟨(A0.ext X).cell0 rfl, (A0.ext X).cell0 rfl, (X.cell (by exact hh)).trans x2⟩
                clear hK K'
                try simp only [Act.put, List.setIfInBounds_toArray, List.set_cons_zero, List.set_cons_succ]
                refine wpAnyH_ready (rs := [3]) (by kernel_rfl) (by simp) ?_
                refine AllReadyH.cons rfl (fun K' hK => ?_) AllReadyH.nil
                refine if_yes (by rfl) ?_
                try simp only [Act.put, List.setIfInBounds_toArray, List.set_cons_zero, List.set_cons_succ]
                refine wp_appI _ (.tmp 71) (.tmp 72) rfl be 0 (.slice (some ⟨be, 0, none⟩) 0 0) [] rfl TE (.slice (some ⟨g, 0, none⟩) row.length c2) row rfl ((HV.out.ext (ext_trans E0 X))) (by first | (simp; done) | (simp; omega)) (by omega) ?_
                intro v' u12 hv' hg'
                rw [List.nil_append] at hv'
                obtain ⟨an, cn, rfl, -⟩ := hv'.open
                have TN := hv'
                have TNl : ∀ q, (Value.slice an (row.length) cn).ownBlock = some q → q < u12.heap.size := fun q hq => (TN.lt q hq).2
                have TL := TL.far hg' (fun q hq e => by simp [Value.ownBlock] at hq e; omega)
                have X := ext_grown X hg' (fun q hq => by simp [Value.ownBlock] at hq; omega)
                have qu12 : ws.heap.size ≤ u12.heap.size := X.size
                have hbe2 : be ≤ u12.heap.size := by have := hg'.size; omega
                clear hg' hv' TE
                refine hK.out _ _ ?_ (fun hHeld => ?_)
                · exact ⟨(A0.ext X).cell0 rfl, (A0.ext X).cell0 rfl, (X.cell (by exact hh)).trans x2⟩
                clear hK K'
                try simp only [Act.put, List.setIfInBounds_toArray, List.set_cons_zero, List.set_cons_succ]
                refine wpAnyH_ready (rs := [6]) (by kernel_rfl) (by simp) ?_
                refine AllReadyH.cons rfl (fun K' hK => ?_) AllReadyH.nil
                refine if_yes (by rfl) ?_
                try simp only [Act.put, List.setIfInBounds_toArray, List.set_cons_zero, List.set_cons_succ]
                refine wp_appI _ (.tmp 73) (.tmp 75) rfl be 0 (.slice an row.length cn) row rfl TN (.slice (some ⟨bl, 0, none⟩) 1 1) [(k : Int)] rfl (TL.base (Nat.zero_le _)) (by first | (simp; done) | (simp; omega)) (by omega) ?_
                intro v' u13 hv' hg'
                obtain ⟨am, cm, rfl, -⟩ := hv'.open
                have he1 : (row ++ [(k : Int)]).length = row.length + 1 := by simp
                rw [he1] at hv'
                try rw [he1]
                have TM := hv'
                have X := ext_grown X hg' (fun q hq => by have := (TN.lt q hq).1; omega)
                have qu13 : ws.heap.size ≤ u13.heap.size := X.size
                clear hg' hv' he1
                refine hK.out _ _ ?_ (fun hHeld => ?_)
                · exact ⟨(A0.ext X).cell0 rfl, (A0.ext X).cell0 rfl, (X.cell (by exact hh)).trans x2⟩
                clear hK K'
                try simp only [Act.put, List.setIfInBounds_toArray, List.set_cons_zero, List.set_cons_succ]
                refine wpAnyH_ready (rs := [16]) (by kernel_rfl) (by simp) ?_
                refine AllReadyH.cons rfl (fun K' hK => ?_) AllReadyH.nil
                refine if_yes (by rfl) ?_
                try simp only [Act.put, List.setIfInBounds_toArray, List.set_cons_zero, List.set_cons_succ]
                go_simp
                refine (ih (row ++ [(k : Int)]) sm _ _ u13 (by first | (simp; omega) | (have h := hd; simp only [List.length_nil, List.nil_append, List.length_singleton] at h ⊢; omega)) (hrange k hlk) (HP.out.ext (ext_trans E0 X)) (TM.base (Nat.zero_le _))).mono ?_
                rintro e u14 ⟨v9, l9, rfl, hor, hl9, hb9⟩
                have hfin : Ints u14 ws.heap.size v9 l9 := by
                  rcases hor with ⟨rfl, rfl⟩ | h
                  · exact (TM.ext hb9).base (by omega)
                  · exact h.base (by omega)
                have X := ext_trans X hb9
                clear hor hb9
                go_wp2_with fail
                refine hK.out _ _ ?_ (fun hHeld => ?_)
                · exact ⟨(A0.ext X).cell0 rfl, (A0.ext X).cell0 rfl, (X.cell (by exact hh)).trans x2⟩
                clear hK K'
                try simp only [Act.put, List.setIfInBounds_toArray, List.set_cons_zero, List.set_cons_succ]
                refine wpAnyH_take (i := 17) (v := ?_) rfl (by kernel_rfl) (by kernel_rfl) (by kernel_rfl) (fun _ _ _ h => h) (Or.inl ⟨by rfl, fun w' hS' => ?_⟩) (by assumption) ?_
                rotate_left
                · (try dsimp only at hS'); go_simp; (try rw [if_pos (by omega)]); try with_reducible rfl
                try simp only [Act.put, List.getElem_toArray, List.getElem_cons_zero, List.getElem_cons_succ, List.setIfInBounds_toArray, List.set_cons_zero, List.set_cons_succ]
                refine wpAnyH_done (by kernel_rfl) ?_ _
                try simp only [Act.put, List.setIfInBounds_toArray, List.set_cons_zero, List.set_cons_succ]
                go_wp2_with fail
                go_meet
                exact ⟨l9, hfin, hl9, X⟩
            rename World => wt
            obtain ⟨l9, hr9, hl9, hb9⟩ := hcut
            have hb := ext_trans hb hb9
            have R9 := Lib.hid hr9
            obtain ⟨a9, c9, rfl, -⟩ := hr9.open
            clear hb9 hr9 x2 hh hh2 A0
            by_cases hl0 : 0 < l9.length
            · have hl0i : (0 : Int) < (l9.length : Int) := by omega
              go_wp2_with fail
              go_ret
              exact ⟨_, l9, rfl, .inr (R9.out.base (by have := E.size; have := hb.size; omega)), hl9, ext_trans E hb⟩
            · have hl0i : ¬ ((0 : Int) < (l9.length : Int)) := by omega
              go_wp2_with fail
              go_roundg (p.bs.length - (k+1))
              case rel => exact ⟨k+1, by omega, rfl, by go_num, hb⟩
              case measure => have := Hk.out; omega
          · have he : (t != f) = true := by simp [htf]
            clear htf
            go_wp2_with fail
            go_quiet (fail)
            go_wp2_with fail
            go_roundg (p.bs.length - (k+1))
            case rel => exact ⟨k+1, by omega, rfl, by go_num, ext_trans hb (ext_drewR _ _)⟩
            case measure => have := Hk.out; omega
      · go_wp2_with fail
        go_ret
        exact ⟨_, [], rfl, .inr (Ints.ofBox (Box.new _ _ _) (by have := E1.size; omega)), by simp, ext_alloc E1 _⟩
end Go.Proofs.Ytlcmhcfnmohgmaa
