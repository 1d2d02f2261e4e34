/- The walks of the functions on desks without plans of before: DeskNew, sameDesk, noDesk, DeskOk. Conditions: the bounds can be read, and are at most two million. -/
import Derived.Test.YtcjdodjjdchnaaaPlanMk
import Derived.Test.YtcjdodjjdchnaaaSame
import Derived.Test.YtcjdodjjdchnaaaApp
import Derived.Test.YtcjdodjjdchnaaaTail
namespace Go.Proofs.Ytcjdodjjdchnaaa
open Go.RowKit
set_option linter.unusedVariables false
set_option linter.unusedSimpArgs false
set_option maxRecDepth 100000 in
set_option maxHeartbeats 2000000 in
theorem spec_l15Plan (p : Pl) (bs : Value) (w : World) (hv : Bds w 0 bs p.bs) (hlen : p.bs.length ≤ 2000000) :
    Calls Try.prog 65 #[.agg #[.int .i64 p.pts, bs]] w (RetPlan w p) := by
  have Hv := Lib.hid hv
  obtain ⟨a, cap, rfl, hn, hc, -⟩ := hv.open
  clear hv
  go_enter Try.func65, Try.ntmps65
  go_wp2_with fail
  obtain ⟨W, hW, B0, B1, hs, HB⟩ := two_boxes w #[.int .i64 p.pts, .slice a p.bs.length cap] #[.int .i64 0, .slice none 0 0] 25 25
  rw [← hW.out]
  have Hv2 := Lib.hid (Hv.out.ext HB)
  refine wp_region_tail 7 (by kernel_rfl) (by kernel_rfl) (fun w' => w'.cell? ⟨w.heap.size, 0, none⟩ = some (Value.int .i64 p.pts) ∧ w'.cell? ⟨w.heap.size, 1, none⟩ = some (.slice a p.bs.length cap)) ?_ ?_
  · exact ⟨B0.cell0 rfl, B0.cell0 rfl⟩
  intro hHeld
  obtain ⟨D, hD⟩ : ∃ D, Hid (D = W.drew) := ⟨_, rfl⟩
  have hDs : D.heap.size = W.heap.size := by rw [hD.out]; rfl
  have HD := ext_drew HB
  have B0 := B0.drew
  have B1 := B1.drew
  have Hv2 : Hid (Bds D 0 (.slice a p.bs.length cap) p.bs) := by rw [hD.out]; exact Lib.hid Hv2.out.drew
  rw [← hD.out] at hHeld B0 B1 HD ⊢
  have Hs := Lib.hid (show w.heap.size + 2 ≤ D.heap.size by omega)
  clear hDs hs
  simp only [List.pop_toArray, List.dropLast]
  refine wpAnyH_take (i := 0) (v := ?_) rfl (by kernel_rfl) (by kernel_rfl) (by kernel_rfl) (fun _ _ _ h => h) (Or.inl ⟨by rfl, fun w' hS' => ?_⟩) (by assumption) ?_
  rotate_left
  · (try dsimp only at hS'); go_simp; (try rw [if_pos (by omega)]); try with_reducible rfl
  try simp only [Act.put, List.getElem_toArray, List.getElem_cons_zero, List.getElem_cons_succ, List.setIfInBounds_toArray, List.set_cons_zero, List.set_cons_succ]
  refine wpAnyH_take (i := 1) (v := ?_) rfl (by kernel_rfl) (by kernel_rfl) (by kernel_rfl) (fun _ _ _ h => h) (Or.inl ⟨by rfl, fun w' hS' => ?_⟩) (by assumption) ?_
  rotate_left
  · (try dsimp only at hS'); go_simp; (try rw [if_pos (by omega)]); try with_reducible rfl
  try simp only [Act.put, List.getElem_toArray, List.getElem_cons_zero, List.getElem_cons_succ, List.setIfInBounds_toArray, List.set_cons_zero, List.set_cons_succ]
  refine wpAnyH_take (i := 3) (v := ?_) rfl (by kernel_rfl) (by kernel_rfl) (by kernel_rfl) (fun _ _ _ h => h) (Or.inl ⟨by rfl, fun w' hS' => ?_⟩) (by assumption) ?_
  rotate_left
  · (try dsimp only at hS'); go_simp; (try rw [if_pos (by omega)]); try with_reducible rfl
  try simp only [Act.put, List.getElem_toArray, List.getElem_cons_zero, List.getElem_cons_succ, List.setIfInBounds_toArray, List.set_cons_zero, List.set_cons_succ]
  refine wpAnyH_take (i := 4) (v := ?_) rfl (by kernel_rfl) (by kernel_rfl) (by kernel_rfl) (fun _ _ _ h => h) (Or.inl ⟨by rfl, fun w' hS' => ?_⟩) (by assumption) ?_
  rotate_left
  · (try dsimp only at hS'); go_simp; (try rw [if_pos (by omega)]); try with_reducible rfl
  try simp only [Act.put, List.getElem_toArray, List.getElem_cons_zero, List.getElem_cons_succ, List.setIfInBounds_toArray, List.set_cons_zero, List.set_cons_succ]
  refine wpAnyH_ready (rs := [2]) (by kernel_rfl) (by simp) ?_
  refine AllReadyH.cons rfl (fun K' hK => ?_) AllReadyH.nil
  refine if_yes (by rfl) ?_
  try simp only [Act.put, List.getElem_toArray, List.getElem_cons_zero, List.getElem_cons_succ, List.setIfInBounds_toArray, List.set_cons_zero, List.set_cons_succ]
  go_simp
  refine hK.out _ _ ?_ (fun hHeld => ?_)
  · exact ⟨(B0.alloc _).cell0 rfl, (B0.alloc _).cell0 rfl⟩
  clear hK K'
  try simp only [Act.put, List.getElem_toArray, List.getElem_cons_zero, List.getElem_cons_succ, List.setIfInBounds_toArray, List.set_cons_zero, List.set_cons_succ]
  refine wpAnyH_ready (rs := [5]) (by kernel_rfl) (by simp) ?_
  refine AllReadyH.cons rfl (fun K' hK => ?_) AllReadyH.nil
  refine if_yes (by rfl) ?_
  try simp only [Act.put, List.getElem_toArray, List.getElem_cons_zero, List.getElem_cons_succ, List.setIfInBounds_toArray, List.set_cons_zero, List.set_cons_succ]
  refine wp_appB _ (.tmp 5) (.tmp 7) rfl D.heap.size 0 (.slice (some ⟨D.heap.size, 0, none⟩) 0 0) [] rfl (Bds.ofBox (Box.new D 40 #[]) (Nat.le_refl _)) (.slice a p.bs.length cap) p.bs rfl (Hv2.out.alloc _) (by simp; omega) (by simp) ?_
  intro v' w' hv' hg'
  simp only [List.nil_append] at hv'
  obtain ⟨a', cap', rfl, -⟩ := hv'.open
  have B0 := (B0.alloc (.cells #[] 40)).grown hg' (fun e => by have := Hs.out; simp [Value.ownBlock] at e; omega)
  have B1 := (B1.alloc (.cells #[] 40)).grown hg' (fun e => by have := Hs.out; simp [Value.ownBlock] at e; omega)
  have E := ext_grown (ext_alloc HD (.cells #[] 40)) hg' (fun k hk => by have := Hs.out; simp [Value.ownBlock] at hk; omega)
  have V := Lib.hid hv'
  refine hK.out _ _ ?_ (fun hHeld => ?_)
  · exact ⟨B0.cell0 rfl, B0.cell0 rfl⟩
  clear hK K'
  try simp only [Act.put, List.getElem_toArray, List.getElem_cons_zero, List.getElem_cons_succ, List.setIfInBounds_toArray, List.set_cons_zero, List.set_cons_succ]
  clear hg' hv'
  refine wpAnyH_take (i := 6) (v := ?_) rfl (by kernel_rfl) (by kernel_rfl) (by kernel_rfl) (fun _ _ _ h => h) (Or.inl ⟨by rfl, fun w' hS' => ?_⟩) (by assumption) ?_
  rotate_left
  · (try dsimp only at hS'); go_simp; (try rw [if_pos (by omega)]); try with_reducible rfl
  try simp only [Act.put, List.getElem_toArray, List.getElem_cons_zero, List.getElem_cons_succ, List.setIfInBounds_toArray, List.set_cons_zero, List.set_cons_succ]
  obtain ⟨rc1, rz1⟩ := (B1).rules; have rl1 := (B1).lt
  refine wpAnyH_done (by kernel_rfl) ?_ _
  refine tail_step rfl (fun K' hK => ?_)
  refine if_yes (by rfl) ?_
  try simp only [Act.put, List.getElem_toArray, List.getElem_cons_zero, List.getElem_cons_succ, List.setIfInBounds_toArray, List.set_cons_zero, List.set_cons_succ]
  go_simp
  refine hK _ _ ?_
  clear hK K'
  try simp only [Act.put, List.getElem_toArray, List.getElem_cons_zero, List.getElem_cons_succ, List.setIfInBounds_toArray, List.set_cons_zero, List.set_cons_succ]
  go_wp2_with fail
  refine bodyPost_ret (v := .agg #[.int .i64 p.pts, .slice a' p.bs.length cap']) (by simp [results, Try.results65, go_sem, *]) rfl ?_
  have hs := Hs.out
  exact ⟨_, rfl, ((V.out.low (by dsimp only; omega) _).low (by dsimp only; omega) _).base (by omega), ext_set (ext_set E (by simp) _) (by simp) _⟩
def RetDesk (w : World) (p : Pl) (b : Bool) : Ending → World → Prop := fun e w' => ∃ bs, e = .returned (.tuple #[.agg #[.int .i64 p.pts, bs, .slice none 0 0], .bool b]) ∧ Bds w' w.heap.size bs p.bs ∧ Below w.heap.size w w'
def Pl.desk (p : Pl) : Pl := if p.ok then p else Pl.zero
set_option maxHeartbeats 2000000 in
theorem spec_DeskNew (p : Pl) (bs : Value) (w : World) (hv : Bds w 0 bs p.bs) (hlen : p.bs.length ≤ 2000000) :
    Calls Try.prog 24 #[.agg #[.int .i64 p.pts, bs]] w (RetDesk w p.desk p.ok) := by
  have Hv := Lib.hid hv
  obtain ⟨a, cap, rfl, hn, hc, -⟩ := hv.open
  clear hv
  go_enter Try.func24, Try.ntmps24
  go_wp2_with fail
  obtain ⟨W, hW, A0, A1, hs, E⟩ := two_boxes w #[.int .i64 p.pts, .slice a p.bs.length cap] #[.int .i64 0, .slice none 0 0, .slice none 0 0] 25 34
  rw [← hW.out]
  refine (spec_PlanOk p _ _ (Hv.out.ext E)).mono ?_
  rintro e w1 ⟨rfl, hb1⟩
  have A0 := A0.ext hb1
  have A1 := A1.ext hb1
  have E1 := ext_trans E hb1
  clear E hb1
  obtain ⟨rc0, rz0⟩ := (A0).rules; have rl0 := (A0).lt
  obtain ⟨rc1, rz1⟩ := (A1).rules; have rl1 := (A1).lt
  by_cases hok : p.ok = true
  · rw [hok]
    go_wp2_with fail
    refine (spec_l15Plan p _ _ (Hv.out.ext E1) hlen).mono ?_
    rintro e w2 ⟨v, rfl, hv, hb2⟩
    obtain ⟨av, cv, rfl, -⟩ := hv.open
    have V := Lib.hid hv
    have A1 := A1.ext hb2
    have E2 := ext_trans E1 hb2
    clear hv hb2 rc0 rz0 rc1 rz1
    obtain ⟨rc2, rz2⟩ := (A1).rules; have rl2 := (A1).lt
    go_wp2_with fail
    refine bodyPost_ret (v := .tuple #[.agg #[.int .i64 p.pts, .slice av p.bs.length cv, .slice none 0 0], .bool true]) (by simp [results, Try.results24, go_sem, *]) rfl ?_
    rw [show p.desk = p from if_pos hok, hok]
    exact ⟨_, rfl, (((V.out.low (by dsimp only; omega) _).low (by dsimp only; omega) _).low (by dsimp only; omega) _).base (by omega), ext_set (ext_set (ext_set E2 (by simp) _) (by simp) _) (by simp) _⟩
  · simp only [Bool.not_eq_true] at hok
    rw [hok]
    go_wp2_with fail
    refine bodyPost_ret (v := .tuple #[.agg #[.int .i64 0, .slice none 0 0, .slice none 0 0], .bool false]) (by simp [results, Try.results24, go_sem, *]) rfl ?_
    rw [show p.desk = Pl.zero from if_neg (by simp [hok]), hok]
    exact ⟨_, rfl, Bds.nil _ _, ext_set (ext_set (ext_set E1 (by simp) _) (by simp) _) (by simp) _⟩
set_option maxHeartbeats 2000000 in
theorem impl_DeskNew (p : Pl) (bs : Value) (w : World) (hv : Bds w 0 bs p.bs) (hlen : p.bs.length ≤ 2000000) :
    Calls Try.prog 23 #[.agg #[.int .i64 p.pts, bs]] w (RetDesk w p.desk p.ok) := by
  have Hv := Lib.hid hv
  obtain ⟨a, cap, rfl, hn, hc, -⟩ := hv.open
  clear hv
  go_enter Try.func23, Try.ntmps23
  go_wp2_with fail
  obtain ⟨W, hW, A0, A1, hs, E⟩ := two_boxes w #[.int .i64 p.pts, .slice a p.bs.length cap] #[.int .i64 0, .slice none 0 0, .slice none 0 0] 25 34
  rw [← hW.out]
  refine (impl_PlanOk p _ _ (Hv.out.ext E)).mono ?_
  rintro e w1 ⟨rfl, hb1⟩
  have A0 := A0.ext hb1
  have A1 := A1.ext hb1
  have E1 := ext_trans E hb1
  clear E hb1
  obtain ⟨rc0, rz0⟩ := (A0).rules; have rl0 := (A0).lt
  obtain ⟨rc1, rz1⟩ := (A1).rules; have rl1 := (A1).lt
  by_cases hok : p.ok = true
  · rw [hok]
    go_wp2_with fail
    refine (impl_clone p _ _ (Hv.out.ext E1) hlen).mono ?_
    rintro e w2 ⟨v, rfl, hv, hb2⟩
    obtain ⟨av, cv, rfl, -⟩ := hv.open
    have V := Lib.hid hv
    have A1 := A1.ext hb2
    have E2 := ext_trans E1 hb2
    clear hv hb2 rc0 rz0 rc1 rz1
    obtain ⟨rc2, rz2⟩ := (A1).rules; have rl2 := (A1).lt
    go_wp2_with fail
    refine bodyPost_ret (v := .tuple #[.agg #[.int .i64 p.pts, .slice av p.bs.length cv, .slice none 0 0], .bool true]) (by simp [results, Try.results23, go_sem, *]) rfl ?_
    rw [show p.desk = p from if_pos hok, hok]
    exact ⟨_, rfl, (((V.out.low (by dsimp only; omega) _).low (by dsimp only; omega) _).low (by dsimp only; omega) _).base (by omega), ext_set (ext_set (ext_set E2 (by simp) _) (by simp) _) (by simp) _⟩
  · simp only [Bool.not_eq_true] at hok
    rw [hok]
    go_wp2_with fail
    refine bodyPost_ret (v := .tuple #[.agg #[.int .i64 0, .slice none 0 0, .slice none 0 0], .bool false]) (by simp [results, Try.results23, go_sem, *]) rfl ?_
    rw [show p.desk = Pl.zero from if_neg (by simp [hok]), hok]
    exact ⟨_, rfl, Bds.nil _ _, ext_set (ext_set (ext_set E1 (by simp) _) (by simp) _) (by simp) _⟩
set_option maxHeartbeats 2000000 in
theorem laws_sameDesk (p q : Pl) (v v' : Value) (w : World) (hv : Bds w 0 v p.bs) (hv' : Bds w 0 v' q.bs) :
    Calls Try.prog 25 #[.agg #[.int .i64 p.pts, v, .slice none 0 0], .agg #[.int .i64 q.pts, v', .slice none 0 0]] w fun e w' => e = .returned (.bool (decide (p = q))) ∧ Below w.heap.size w w' := by
  have Hv := Lib.hid hv; have Hv' := Lib.hid hv'
  obtain ⟨a, cap, rfl, hn, hc, -⟩ := hv.open
  obtain ⟨a', cap', rfl, hn', hc', -⟩ := hv'.open
  clear hv hv'
  go_enter Try.func25, Try.ntmps25
  go_wp2_with fail
  obtain ⟨W, hW, A0, A1, hs, E⟩ := two_boxes w #[.int .i64 p.pts, .slice a p.bs.length cap, .slice none 0 0] #[.int .i64 q.pts, .slice a' q.bs.length cap', .slice none 0 0] 34 34
  rw [← hW.out]
  refine (laws_samePlan p q _ _ _ (Hv.out.ext E) (Hv'.out.ext E)).mono ?_
  rintro e w1 ⟨rfl, hb1⟩
  have A0 := A0.ext hb1
  have A1 := A1.ext hb1
  have E1 := ext_trans E hb1
  obtain ⟨rc0, rz0⟩ := (A0).rules; have rl0 := (A0).lt
  obtain ⟨rc1, rz1⟩ := (A1).rules; have rl1 := (A1).lt
  by_cases hpq : p = q
  · have Hpq := Lib.hid hpq
    rw [decide_eq_true hpq]
    clear hpq
    go_wp2_with fail
    refine wp_loop_rounds 1 ?_
    rw [rounds_succ]
    go_wp2_with fail
    go_ret
    exact ⟨by rw [decide_eq_true Hpq.out]; rfl, E1⟩
  · have Hpq := Lib.hid hpq
    rw [decide_eq_false hpq]
    clear hpq
    go_wp2_with fail
    go_ret
    exact ⟨by rw [decide_eq_false Hpq.out]; rfl, E1⟩
set_option maxHeartbeats 1000000 in
theorem laws_noDesk (p : Pl) (v : Value) (w : World) (hv : Bds w 0 v p.bs) : Calls Try.prog 26 #[.agg #[.int .i64 p.pts, v, .slice none 0 0]] w fun e w' => e = .returned (.bool (decide (p = Pl.zero))) ∧ Below w.heap.size w w' := by
  have Hv := Lib.hid hv
  obtain ⟨a, cap, rfl, hn, hc, -⟩ := hv.open
  clear hv
  go_enter Try.func26, Try.ntmps26
  go_wp2_with fail
  obtain ⟨W, hW, A0, hs, E⟩ := one_box w #[.int .i64 p.pts, .slice a p.bs.length cap, .slice none 0 0] 34
  rw [← hW.out]
  refine (laws_sameDesk p Pl.zero _ (.slice none 0 0) _ (Hv.out.ext E) (Bds.nil _ _)).mono ?_
  rintro e w1 ⟨rfl, hb1⟩
  go_wp2_with fail
  go_ret
  exact ⟨rfl, ext_trans E hb1⟩
set_option maxHeartbeats 1000000 in
theorem impl_DeskOk0 (p : Pl) (v : Value) (w : World) (hv : Bds w 0 v p.bs) : Calls Try.prog 27 #[.agg #[.int .i64 p.pts, v, .slice none 0 0]] w fun e w' => e = .returned (.bool p.ok) ∧ Below w.heap.size w w' := by
  have Hv := Lib.hid hv
  obtain ⟨a, cap, rfl, hn, hc, -⟩ := hv.open
  clear hv
  go_enter Try.func27, Try.ntmps27
  go_wp2_with fail
  obtain ⟨W, hW, A0, hs, E⟩ := one_box w #[.int .i64 p.pts, .slice a p.bs.length cap, .slice none 0 0] 34
  rw [← hW.out]
  obtain ⟨rc0, rz0⟩ := (A0).rules; have rl0 := (A0).lt
  refine wp_loop_rounds 1 ?_
  rw [rounds_succ]
  go_wp2_with fail
  refine (impl_PlanOk p _ _ (Hv.out.ext E)).mono ?_
  rintro e w1 ⟨rfl, hb1⟩
  have A0 := A0.ext hb1
  obtain ⟨rc1, rz1⟩ := (A0).rules; have rl1 := (A0).lt
  cases hok : p.ok
  · go_wp2_with fail
    go_ret
    exact ⟨by rw [hok]; rfl, ext_trans E hb1⟩
  · go_wp2_with fail
    go_ret
    exact ⟨by rw [hok]; rfl, ext_trans E hb1⟩
end Go.Proofs.Ytcjdodjjdchnaaa
