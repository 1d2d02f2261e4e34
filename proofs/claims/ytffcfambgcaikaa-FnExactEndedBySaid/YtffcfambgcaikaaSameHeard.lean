/- sameHeard of the drawn laws tells whether two lists of happenings are equal. No condition but that they can be read. -/
import Derived.Test.YtffcfambgcaikaaHeardS
import Derived.Deep.Cut
namespace Go.Proofs.Ytffcfambgcaikaa
open Go.RowKit
set_option linter.unusedVariables false
set_option linter.unusedSimpArgs false
theorem eq_chainH {α : Type} {b b' : Hp} (h : b = b') (x y : α) : (if b.pt = b'.pt then if b.tm = b'.tm then x else y else y) = x := by
  subst h; simp
theorem ne_chainH {α : Type} {b b' : Hp} (h : ¬ b = b') (x y : α) : (if b.pt = b'.pt then if b.tm = b'.tm then x else y else y) = y := by
  obtain ⟨f, t⟩ := b
  obtain ⟨f', t'⟩ := b'
  split
  · split
    · simp_all
    · rfl
  · rfl
theorem eq_of_getH (l l' : List Hp) (h : l.length = l'.length) (ha : ∀ i, i < l.length → hA l i = hA l' i) : l = l' := by
  refine List.ext_getElem h fun i h1 h2 => ?_
  have := ha i h1
  unfold hA at this
  rwa [List.getD_eq_getElem?_getD, List.getD_eq_getElem?_getD, List.getElem?_eq_getElem h1, List.getElem?_eq_getElem h2] at this
set_option maxRecDepth 100000 in
set_option maxHeartbeats 2000000 in
theorem laws_sameHeard (l l' : List Hp) (v v' : Value) (w : World) (hv : Hps w 0 v l) (hv' : Hps w 0 v' l') :
    Calls Try.prog 20 #[v, v'] w fun e w' => e = .returned (.bool (decide (l = l'))) ∧ Below w.heap.size w w' := by
  have Hv := Lib.hid hv; have Hv' := Lib.hid hv'
  obtain ⟨a, cap, rfl, hn, hc, -⟩ := hv.open
  obtain ⟨a', cap', rfl, hn', hc', -⟩ := hv'.open
  clear hv hv'
  by_cases hlen : l.length = l'.length
  · have Hlen := Lib.hid hlen
    have hne : ((l.length : Int) != (l'.length : Int)) = false := by simp [hlen]
    clear hlen
    go_enter Try.func20, Try.ntmps20
    go_wp2_with fail
    go_loopg [5] l.length (fun m k wr => ∃ j : Nat, j ≤ l.length ∧ m = l.length - j ∧ k = .int .i64 j ∧ Below w.heap.size w wr ∧ Hid (∀ i, i < j → hA l i = hA l' i))
    case atStart => exact ⟨0, by omega, by omega, rfl, ext_refl _, Lib.hid fun i hi => by omega⟩
    case round =>
      obtain ⟨j, hj, hgk, rfl, hbel, Hall⟩ := hrel
      have Hk := Lib.hid hgk
      clear hgk
      have hl2 : j ≤ l'.length := by have := Hlen.out; omega
      by_cases hlt : j < l.length
      · have hlt2 : j < l'.length := by have := Hlen.out; omega
        obtain ⟨g, rfl, _, hg, _, k0, k1⟩ := (Hv.out.ext hbel).at_ hlt
        obtain ⟨g', rfl, _, hg', _, m0, m1⟩ := (Hv'.out.ext hbel).at_ hlt2
        obtain ⟨b, Hb⟩ : ∃ b, Hid (b = hA l j) := ⟨_, rfl⟩
        obtain ⟨b', Hb'⟩ : ∃ b, Hid (b = hA l' j) := ⟨_, rfl⟩
        rw [show l.getD j Hp.z = b from Hb.out.symm] at k0 k1
        rw [show l'.getD j Hp.z = b' from Hb'.out.symm] at m0 m1
        go_upto_region 6 with fail
        refine wp_region_held_drew (S := fun w' => w'.cell? ⟨g, j*2, none⟩ = some (Value.int .i64 b.pt) ∧ w'.cell? ⟨g, j*2+1, none⟩ = some (Value.int .i64 b.tm) ∧ w'.cell? ⟨g', j*2, none⟩ = some (Value.int .i64 b'.pt) ∧ w'.cell? ⟨g', j*2+1, none⟩ = some (Value.int .i64 b'.tm)) (by kernel_rfl) ?_ (fun hHeld => ?_)
        · exact ⟨k0, k1, m0, m1⟩
        refine wpAnyH_take (i := 0) (v := ?_) rfl (by kernel_rfl) (by kernel_rfl) (by kernel_rfl) (fun _ _ _ h => h) (Or.inl ⟨by rfl, fun w' hS' => ?_⟩) (by assumption) ?_
        rotate_left
        · (try dsimp only at hS'); go_simp; (try rw [if_pos (by omega)]); try with_reducible rfl
        try simp only [Act.put, List.getElem_toArray, List.getElem_cons_zero, List.getElem_cons_succ, List.setIfInBounds_toArray, List.set_cons_zero, List.set_cons_succ]
        refine wpAnyH_take (i := 1) (v := ?_) rfl (by kernel_rfl) (by kernel_rfl) (by kernel_rfl) (fun _ _ _ h => h) (Or.inl ⟨by rfl, fun w' hS' => ?_⟩) (by assumption) ?_
        rotate_left
        · (try dsimp only at hS'); go_simp; (try rw [if_pos (by omega)]); try with_reducible rfl
        try simp only [Act.put, List.getElem_toArray, List.getElem_cons_zero, List.getElem_cons_succ, List.setIfInBounds_toArray, List.set_cons_zero, List.set_cons_succ]
        refine wpAnyH_take (i := 2) (v := ?_) rfl (by kernel_rfl) (by kernel_rfl) (by kernel_rfl) (fun _ _ _ h => h) (Or.inl ⟨by rfl, fun w' hS' => ?_⟩) (by assumption) ?_
        rotate_left
        · (try dsimp only at hS'); go_simp; (try rw [if_pos (by omega)]); try with_reducible rfl
        try simp only [Act.put, List.getElem_toArray, List.getElem_cons_zero, List.getElem_cons_succ, List.setIfInBounds_toArray, List.set_cons_zero, List.set_cons_succ]
        refine wpAnyH_take (i := 3) (v := ?_) rfl (by kernel_rfl) (by kernel_rfl) (by kernel_rfl) (fun _ _ _ h => h) (Or.inl ⟨by rfl, fun w' hS' => ?_⟩) (by assumption) ?_
        rotate_left
        · (try dsimp only at hS'); go_simp; (try rw [if_pos (by omega)]); try with_reducible rfl
        try simp only [Act.put, List.getElem_toArray, List.getElem_cons_zero, List.getElem_cons_succ, List.setIfInBounds_toArray, List.set_cons_zero, List.set_cons_succ]
        refine wpAnyH_take (i := 4) (v := ?_) rfl (by kernel_rfl) (by kernel_rfl) (by kernel_rfl) (fun _ _ _ h => h) (Or.inl ⟨by rfl, fun w' hS' => ?_⟩) (by assumption) ?_
        rotate_left
        · (try dsimp only at hS'); go_simp; (try rw [if_pos (by omega)]); try with_reducible rfl
        try simp only [Act.put, List.getElem_toArray, List.getElem_cons_zero, List.getElem_cons_succ, List.setIfInBounds_toArray, List.set_cons_zero, List.set_cons_succ]
        refine wpAnyH_take (i := 5) (v := ?_) rfl (by kernel_rfl) (by kernel_rfl) (by kernel_rfl) (fun _ _ _ h => h) (Or.inl ⟨by rfl, fun w' hS' => ?_⟩) (by assumption) ?_
        rotate_left
        · (try dsimp only at hS'); go_simp; (try rw [if_pos (by omega)]); try with_reducible rfl
        try simp only [Act.put, List.getElem_toArray, List.getElem_cons_zero, List.getElem_cons_succ, List.setIfInBounds_toArray, List.set_cons_zero, List.set_cons_succ]
        refine wpAnyH_take (i := 6) (v := ?_) rfl (by kernel_rfl) (by kernel_rfl) (by kernel_rfl) (fun _ _ _ h => h) (Or.inl ⟨by rfl, fun w' hS' => ?_⟩) (by assumption) ?_
        rotate_left
        · (try dsimp only at hS'); go_simp; (try rw [if_pos (by omega)]); try with_reducible rfl
        try simp only [Act.put, List.getElem_toArray, List.getElem_cons_zero, List.getElem_cons_succ, List.setIfInBounds_toArray, List.set_cons_zero, List.set_cons_succ]
        refine wpAnyH_take (i := 7) (v := ?_) rfl (by kernel_rfl) (by kernel_rfl) (by kernel_rfl) (fun _ _ _ h => h) (Or.inl ⟨by rfl, fun w' hS' => ?_⟩) (by assumption) ?_
        rotate_left
        · (try dsimp only at hS'); go_simp; (try rw [if_pos (by omega)]); try with_reducible rfl
        try simp only [Act.put, List.getElem_toArray, List.getElem_cons_zero, List.getElem_cons_succ, List.setIfInBounds_toArray, List.set_cons_zero, List.set_cons_succ]
        refine wpAnyH_ready (rs := [8]) (by kernel_rfl) (by simp) ?_
        refine AllReadyH.cons rfl (fun K' hK => ?_) AllReadyH.nil
        refine if_yes (by rfl) ?_
        try simp only [Act.put, List.getElem_toArray, List.getElem_cons_zero, List.getElem_cons_succ, List.setIfInBounds_toArray, List.set_cons_zero, List.set_cons_succ]
        go_simp
        by_cases hbb : b = b'
        · rw [eq_chainH hbb]
          go_simp
          refine hK.out _ _ ?_ (fun hHeld => ?_)
          · exact ⟨k0, k1, m0, m1⟩
          clear hK K'
          try simp only [Act.put, List.getElem_toArray, List.getElem_cons_zero, List.getElem_cons_succ, List.setIfInBounds_toArray, List.set_cons_zero, List.set_cons_succ]
          refine wpAnyH_done (by kernel_rfl) ?_ _
          go_wp2_with fail
          go_roundg (l.length - (j+1))
          case rel =>
            refine ⟨j+1, by omega, rfl, by go_num, ext_drew hbel, Lib.hid fun i hi => ?_⟩
            by_cases hij : i = j
            · subst hij; rw [← Hb.out, ← Hb'.out]; exact hbb
            · exact Hall.out i (by omega)
          case measure => have := Hk.out; omega
        · rw [ne_chainH hbb]
          go_simp
          refine hK.out _ _ ?_ (fun hHeld => ?_)
          · exact ⟨k0, k1, m0, m1⟩
          clear hK K'
          try simp only [Act.put, List.getElem_toArray, List.getElem_cons_zero, List.getElem_cons_succ, List.setIfInBounds_toArray, List.set_cons_zero, List.set_cons_succ]
          refine wpAnyH_done (by kernel_rfl) ?_ _
          go_wp2_with fail
          go_ret
          refine ⟨?_, ext_drew hbel⟩
          have : ¬ l = l' := fun h => hbb (by rw [Hb.out, Hb'.out, h])
          rw [decide_eq_false this]; rfl
      · have hjl : j = l.length := by omega
        subst hjl
        go_wp2
        go_ret
        refine ⟨?_, hbel⟩
        rw [decide_eq_true (eq_of_getH l l' Hlen.out Hall.out)]; rfl
  · have hne : ((l.length : Int) != (l'.length : Int)) = true := by simp; omega
    have Hlen := Lib.hid hlen
    clear hlen
    go_enter Try.func20, Try.ntmps20
    go_wp2_with fail
    go_ret
    refine ⟨?_, ?_⟩
    · rw [decide_eq_false (fun h => Hlen.out (by rw [h]))]; rfl
    · repeat (first | exact ext_refl _ | (refine ext_trans ?_ (by assumption)) | refine ext_alloc ?_ _ | refine ext_drew ?_ | (refine ext_set ?_ (by first | (simp; done) | (simp; omega)) _))
end Go.Proofs.Ytffcfambgcaikaa
