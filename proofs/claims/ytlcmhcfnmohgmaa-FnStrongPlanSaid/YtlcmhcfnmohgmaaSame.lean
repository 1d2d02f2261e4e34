/- The helpers of the drawn laws: samePlan tells whether two plans are equal; alive is true. No condition but that the bounds can be read. -/
import Derived.Test.YtlcmhcfnmohgmaaPlanOk
import Derived.Test.YtlcmhcfnmohgmaaLawPlan
import Derived.Deep.Cut
namespace Go.Proofs.Ytlcmhcfnmohgmaa
open Go.RowKit
set_option linter.unusedVariables false
set_option linter.unusedSimpArgs false
theorem eq_chain {α : Type} {b b' : Bd} (h : b = b') (x y : α) : (if b.f = b'.f then if b.t = b'.t then if b.m = b'.m then x else y else y else y) = x := by
  subst h; simp
theorem ne_chain {α : Type} {b b' : Bd} (h : ¬ b = b') (x y : α) : (if b.f = b'.f then if b.t = b'.t then if b.m = b'.m then x else y else y else y) = y := by
  obtain ⟨f, t, m⟩ := b
  obtain ⟨f', t', m'⟩ := b'
  split
  · split
    · split
      · simp_all
      · rfl
    · rfl
  · rfl
set_option maxRecDepth 100000 in
set_option maxHeartbeats 2000000 in
theorem laws_samePlan (p q : Pl) (v v' : Value) (w : World) (hv : Bds w 0 v p.bs) (hv' : Bds w 0 v' q.bs) :
    Calls Try.prog 21 #[.agg #[.int .i64 p.pts, v], .agg #[.int .i64 q.pts, v']] w fun e w' => e = .returned (.bool (decide (p = q))) ∧ Below w.heap.size w w' := by
  have Hv := Lib.hid hv; have Hv' := Lib.hid hv'
  obtain ⟨a, cap, rfl, hn, hc, -⟩ := hv.open
  obtain ⟨a', cap', rfl, hn', hc', -⟩ := hv'.open
  clear hv hv'
  obtain ⟨pp, l⟩ := p
  obtain ⟨qq, l'⟩ := q
  dsimp only at *
  by_cases hp : pp = qq
  · have hpb : (pp != qq) = false := by simp [hp]
    have Hp := Lib.hid hp
    clear hp
    by_cases hlen : l.length = l'.length
    · have Hlen := Lib.hid hlen
      have hne : ((l.length : Int) != (l'.length : Int)) = false := by simp [hlen]
      clear hlen
      go_enter Try.func21, Try.ntmps21
      go_wp2_with fail
      obtain ⟨W, hW, A0, A1, -, E⟩ := two_boxes w #[.int .i64 pp, .slice a l.length cap] #[.int .i64 qq, .slice a' l'.length cap'] 25 25
      rw [← hW.out]
      go_loopg [5] l.length (fun m k wr => ∃ j : Nat, j ≤ l.length ∧ m = l.length - j ∧ k = .int .i64 j ∧ Below W.heap.size W wr ∧ Hid (∀ i, i < j → l.getD i Bd.z = l'.getD i Bd.z))
      case atStart => exact ⟨0, by omega, by omega, rfl, ext_refl _, fun i hi => by omega⟩
      case round =>
        obtain ⟨j, hj, hgk, rfl, hbel, Hall⟩ := hrel
        have Hk := Lib.hid hgk
        clear hgk
        have hl2 : j ≤ l'.length := by have := Hlen.out; omega
        have B0 := A0.ext hbel
        have B1 := A1.ext hbel
        obtain ⟨rc0, rz0⟩ := (B0).rules; have rl0 := (B0).lt
        obtain ⟨rc1, rz1⟩ := (B1).rules; have rl1 := (B1).lt
        by_cases hlt : j < l.length
        · have hlt2 : j < l'.length := by have := Hlen.out; omega
          obtain ⟨g, rfl, _, hg, _, k0, k1, k2⟩ := (Hv.out.ext (ext_trans E hbel)).at_ hlt
          obtain ⟨g', rfl, _, hg', _, m0, m1, m2⟩ := (Hv'.out.ext (ext_trans E hbel)).at_ hlt2
          obtain ⟨b, Hb⟩ : ∃ b, Hid (b = l.getD j Bd.z) := ⟨_, rfl⟩
          obtain ⟨b', Hb'⟩ : ∃ b, Hid (b = l'.getD j Bd.z) := ⟨_, rfl⟩
          rw [← Hb.out] at k0 k1 k2
          rw [← Hb'.out] at m0 m1 m2
          go_upto_region 6 with fail
          refine wp_region_held_drew (S := fun w' => w'.cell? ⟨w.heap.size, 1, none⟩ = some (.slice (some ⟨g, 0, none⟩) l.length cap) ∧ w'.cell? ⟨w.heap.size + 1, 1, none⟩ = some (.slice (some ⟨g', 0, none⟩) l'.length cap') ∧ w'.cell? ⟨g, j*3, none⟩ = some (Value.int .i64 b.f) ∧ w'.cell? ⟨g, j*3+1, none⟩ = some (Value.int .i64 b.t) ∧ w'.cell? ⟨g, j*3+2, none⟩ = some (Value.int .i64 b.m) ∧ w'.cell? ⟨g', j*3, none⟩ = some (Value.int .i64 b'.f) ∧ w'.cell? ⟨g', j*3+1, none⟩ = some (Value.int .i64 b'.t) ∧ w'.cell? ⟨g', j*3+2, none⟩ = some (Value.int .i64 b'.m)) (by kernel_rfl) ?_ (fun hHeld => ?_)
          · exact ⟨B0.cell0 rfl, B1.cell0 rfl, k0, k1, k2, m0, m1, m2⟩
          refine wpAnyH_take (i := 0) (v := ?_) rfl (by kernel_rfl) (by kernel_rfl) (by kernel_rfl) (fun _ _ _ h => h) (Or.inl ⟨by rfl, fun w' hS' => ?_⟩) (by assumption) ?_
          rotate_left
          · (try dsimp only at hS'); go_simp; (try rw [if_pos (by omega)]); try with_reducible rfl
          try simp only [Act.put, List.getElem_toArray, List.getElem_cons_zero, List.getElem_cons_succ, List.setIfInBounds_toArray, List.set_cons_zero, List.set_cons_succ]
          refine wpAnyH_take (i := 1) (v := ?_) rfl (by kernel_rfl) (by kernel_rfl) (by kernel_rfl) (fun _ _ _ h => h) (Or.inl ⟨by rfl, fun w' hS' => ?_⟩) (by assumption) ?_
          rotate_left
          · (try dsimp only at hS'); go_simp; (try rw [if_pos (by omega)]); try with_reducible rfl
          try simp only [Act.put, List.getElem_toArray, List.getElem_cons_zero, List.getElem_cons_succ, List.setIfInBounds_toArray, List.set_cons_zero, List.set_cons_succ]
          refine wpAnyH_take (i := 2) (v := ?_) rfl (by kernel_rfl) (by kernel_rfl) (by kernel_rfl) (fun _ _ _ h => h) (Or.inl ⟨by rfl, fun w' hS' => ?_⟩) (by assumption) ?_
          rotate_left
          · (try dsimp only at hS'); go_simp; (try rw [if_pos (by omega)]); try with_reducible rfl
          try simp only [Act.put, List.getElem_toArray, List.getElem_cons_zero, List.getElem_cons_succ, List.setIfInBounds_toArray, List.set_cons_zero, List.set_cons_succ]
          refine wpAnyH_take (i := 3) (v := ?_) rfl (by kernel_rfl) (by kernel_rfl) (by kernel_rfl) (fun _ _ _ h => h) (Or.inl ⟨by rfl, fun w' hS' => ?_⟩) (by assumption) ?_
          rotate_left
          · (try dsimp only at hS'); go_simp; (try rw [if_pos (by omega)]); try with_reducible rfl
          try simp only [Act.put, List.getElem_toArray, List.getElem_cons_zero, List.getElem_cons_succ, List.setIfInBounds_toArray, List.set_cons_zero, List.set_cons_succ]
          refine wpAnyH_take (i := 4) (v := ?_) rfl (by kernel_rfl) (by kernel_rfl) (by kernel_rfl) (fun _ _ _ h => h) (Or.inl ⟨by rfl, fun w' hS' => ?_⟩) (by assumption) ?_
          rotate_left
          · (try dsimp only at hS'); go_simp; (try rw [if_pos (by omega)]); try with_reducible rfl
          try simp only [Act.put, List.getElem_toArray, List.getElem_cons_zero, List.getElem_cons_succ, List.setIfInBounds_toArray, List.set_cons_zero, List.set_cons_succ]
          refine wpAnyH_take (i := 5) (v := ?_) rfl (by kernel_rfl) (by kernel_rfl) (by kernel_rfl) (fun _ _ _ h => h) (Or.inl ⟨by rfl, fun w' hS' => ?_⟩) (by assumption) ?_
          rotate_left
          · (try dsimp only at hS'); go_simp; (try rw [if_pos (by omega)]); try with_reducible rfl
          try simp only [Act.put, List.getElem_toArray, List.getElem_cons_zero, List.getElem_cons_succ, List.setIfInBounds_toArray, List.set_cons_zero, List.set_cons_succ]
          refine wpAnyH_take (i := 6) (v := ?_) rfl (by kernel_rfl) (by kernel_rfl) (by kernel_rfl) (fun _ _ _ h => h) (Or.inl ⟨by rfl, fun w' hS' => ?_⟩) (by assumption) ?_
          rotate_left
          · (try dsimp only at hS'); go_simp; (try rw [if_pos (by omega)]); try with_reducible rfl
          try simp only [Act.put, List.getElem_toArray, List.getElem_cons_zero, List.getElem_cons_succ, List.setIfInBounds_toArray, List.set_cons_zero, List.set_cons_succ]
          refine wpAnyH_take (i := 7) (v := ?_) rfl (by kernel_rfl) (by kernel_rfl) (by kernel_rfl) (fun _ _ _ h => h) (Or.inl ⟨by rfl, fun w' hS' => ?_⟩) (by assumption) ?_
          rotate_left
          · (try dsimp only at hS'); go_simp; (try rw [if_pos (by omega)]); try with_reducible rfl
          try simp only [Act.put, List.getElem_toArray, List.getElem_cons_zero, List.getElem_cons_succ, List.setIfInBounds_toArray, List.set_cons_zero, List.set_cons_succ]
          refine wpAnyH_take (i := 8) (v := ?_) rfl (by kernel_rfl) (by kernel_rfl) (by kernel_rfl) (fun _ _ _ h => h) (Or.inl ⟨by rfl, fun w' hS' => ?_⟩) (by assumption) ?_
          rotate_left
          · (try dsimp only at hS'); go_simp; (try rw [if_pos (by omega)]); try with_reducible rfl
          try simp only [Act.put, List.getElem_toArray, List.getElem_cons_zero, List.getElem_cons_succ, List.setIfInBounds_toArray, List.set_cons_zero, List.set_cons_succ]
          refine wpAnyH_take (i := 9) (v := ?_) rfl (by kernel_rfl) (by kernel_rfl) (by kernel_rfl) (fun _ _ _ h => h) (Or.inl ⟨by rfl, fun w' hS' => ?_⟩) (by assumption) ?_
          rotate_left
          · (try dsimp only at hS'); go_simp; (try rw [if_pos (by omega)]); try with_reducible rfl
          try simp only [Act.put, List.getElem_toArray, List.getElem_cons_zero, List.getElem_cons_succ, List.setIfInBounds_toArray, List.set_cons_zero, List.set_cons_succ]
          refine wpAnyH_ready (rs := [10]) (by kernel_rfl) (by simp) ?_
          refine AllReadyH.cons rfl (fun K' hK => ?_) AllReadyH.nil
          refine if_yes (by rfl) ?_
          try simp only [Act.put, List.getElem_toArray, List.getElem_cons_zero, List.getElem_cons_succ, List.setIfInBounds_toArray, List.set_cons_zero, List.set_cons_succ]
          go_simp
          by_cases hbb : b = b'
          · rw [eq_chain hbb]
            go_simp
            refine hK.out _ _ ?_ (fun hHeld => ?_)
            · exact ⟨B0.cell0 rfl, B1.cell0 rfl, k0, k1, k2, m0, m1, m2⟩
            clear hK K'
            try simp only [Act.put, List.getElem_toArray, List.getElem_cons_zero, List.getElem_cons_succ, List.setIfInBounds_toArray, List.set_cons_zero, List.set_cons_succ]
            refine wpAnyH_done (by kernel_rfl) ?_ _
            go_wp2_with fail
            go_roundg (l.length - (j+1))
            case rel =>
              refine ⟨j+1, by omega, rfl, by go_num, ext_drew hbel, fun i hi => ?_⟩
              by_cases hij : i = j
              · subst hij; rw [← Hb.out, ← Hb'.out]; exact hbb
              · exact Hall.out i (by omega)
            case measure => have := Hk.out; omega
          · rw [ne_chain hbb]
            go_simp
            refine hK.out _ _ ?_ (fun hHeld => ?_)
            · exact ⟨B0.cell0 rfl, B1.cell0 rfl, k0, k1, k2, m0, m1, m2⟩
            clear hK K'
            try simp only [Act.put, List.getElem_toArray, List.getElem_cons_zero, List.getElem_cons_succ, List.setIfInBounds_toArray, List.set_cons_zero, List.set_cons_succ]
            refine wpAnyH_done (by kernel_rfl) ?_ _
            go_wp2_with fail
            go_ret
            refine ⟨?_, ext_trans E (ext_drew hbel)⟩
            have : ¬ (⟨pp, l⟩ : Pl) = ⟨qq, l'⟩ := fun h => hbb (by rw [Hb.out, Hb'.out]; injection h with h1 h2; rw [h2])
            rw [decide_eq_false this]; rfl
        · have hjl : j = l.length := by omega
          subst hjl
          go_wp2
          go_ret
          refine ⟨?_, ext_trans E hbel⟩
          rw [Hp.out, decide_eq_true (by rw [eq_of_getD l l' Hlen.out Hall.out])]; rfl
    · have hne : ((l.length : Int) != (l'.length : Int)) = true := by simp; omega
      have Hlen := Lib.hid hlen
      clear hlen
      go_enter Try.func21, Try.ntmps21
      go_wp2_with fail
      go_ret
      refine ⟨?_, ?_⟩
      · rw [decide_eq_false (fun h => Hlen.out (by injection h with h1 h2; rw [h2]))]; rfl
      · repeat (first | exact ext_refl _ | (refine ext_trans ?_ (by assumption)) | refine ext_alloc ?_ _ | refine ext_drew ?_ | (refine ext_set ?_ (by first | (simp; done) | (simp; omega)) _))
  · have hpb : (pp != qq) = true := by simp [hp]
    have Hp := Lib.hid hp
    clear hp
    go_enter Try.func21, Try.ntmps21
    go_wp2_with fail
    go_ret
    refine ⟨by rw [decide_eq_false (fun h => Hp.out (by injection h))]; rfl, ?_⟩
    repeat (first | exact ext_refl _ | (refine ext_trans ?_ (by assumption)) | refine ext_alloc ?_ _ | refine ext_drew ?_ | (refine ext_set ?_ (by first | (simp; done) | (simp; omega)) _))
set_option maxHeartbeats 1000000 in
theorem laws_alive (w : World) : Calls Try.prog 16 #[] w fun e w' => e = .returned (.bool true) ∧ Below w.heap.size w w' := by
  have H1 := Lib.hid (show (⟨1, []⟩ : Pl).ok = true by decide)
  have H2 := Lib.hid (show (⟨0, []⟩ : Pl).ok = false by decide)
  go_enter Try.func16, Try.ntmps16
  go_wp2_with fail
  refine (impl_PlanOk ⟨1, []⟩ (.slice none 0 0) _ (Bds.nil _ _)).mono ?_
  rintro e w1 ⟨rfl, hb1⟩
  rw [H1.out]
  go_wp2_with fail
  refine (impl_PlanOk ⟨0, []⟩ (.slice none 0 0) _ (Bds.nil _ _)).mono ?_
  rintro e w2 ⟨rfl, hb2⟩
  rw [H2.out]
  go_wp2_with fail
  go_ret
  exact ⟨rfl, ext_trans hb1 hb2⟩
end Go.Proofs.Ytlcmhcfnmohgmaa
