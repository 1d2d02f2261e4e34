/- The walks of spec.WithBound, spec.SetTo and spec.BothPlans: they return what the functions of impl do. Conditions: the bounds can be read, and are at most 1.9 million. -/
import Derived.Test.YtffcfambgcaikaaPlanWith
import Derived.Test.YtffcfambgcaikaaPlanTurn
import Derived.Deep.DeepCutAuto
namespace Go.Proofs.Ytffcfambgcaikaa
open Go.RowKit
set_option linter.unusedVariables false
set_option linter.unusedSimpArgs false
theorem own_not_box {w : World} {base : Nat} {v : Value} {n : Nat} {xs : List Value} (h : w.ownsRow base 78 3 v n xs) {g : Nat} {ys : Array Value} (hb : Box w g 25 ys) : some g ≠ v.ownBlock := by
  intro e
  rcases h.2 with ⟨rfl, _⟩ | ⟨g', cap, cur, rfl, hg, hh, _⟩
  · cases e
  · simp only [Value.ownBlock, Option.some.injEq] at e
    subst e
    unfold Box at hb
    rw [hh] at hb
    simp at hb
def OutPlan (w1 : World) (p : Pl) (v6 : Value) (wx : World) : Prop :=
  ∃ go v, v6 = .pointer (some ⟨go, 0, none⟩) ∧ Box wx go 25 #[.int .i64 p.pts, v] ∧ Bds wx w1.heap.size v p.bs ∧ w1.heap.size ≤ go ∧ Below w1.heap.size w1 wx
def OutPlanB (w1 : World) (p : Pl) (b : Bool) (v6 v7 : Value) (wx : World) : Prop :=
  ∃ go v, v6 = .pointer (some ⟨go, 0, none⟩) ∧ v7 = .bool b ∧ Box wx go 25 #[.int .i64 p.pts, v] ∧ Bds wx w1.heap.size v p.bs ∧ w1.heap.size ≤ go ∧ Below w1.heap.size w1 wx
theorem out_done {w1 w : World} {go n cap : Nat} {a : Option Addr} {p : Pl} {x y : Value} (ho : Box w go 25 #[x, y]) (hv : w.ownsRow w1.heap.size 78 3 (.slice a n cap) n (bcells p.bs)) (hg : w1.heap.size ≤ go) (hb : Below w1.heap.size w1 w) :
    OutPlan w1 p (.pointer (some ⟨go, 0, none⟩)) ((w.setCell ⟨go, 0, none⟩ (.int .i64 p.pts)).setCell ⟨go, 1, none⟩ (.slice a n cap)) := by
  have hn : n = p.bs.length := by
    have := hv.1
    rw [bcells_length] at this
    omega
  subst hn
  have hne := own_not_box hv ho
  refine ⟨go, _, rfl, (ho.set 0 _).set 1 _, ?_, hg, ext_set (ext_set hb hg _) hg _⟩
  exact own_far hv (grown_set (grown_set (World.grownBy.refl w _) _) _) (fun k hk e => hne (by rw [hk]; exact e))
theorem plus_ok {p : Pl} {l : List Bd} (h : (p.plus l).ok = true) : p.ok = true := by
  simp only [Pl.ok, Pl.plus, Bool.and_eq_true, decide_eq_true_eq, List.all_append, List.length_append] at h ⊢
  exact ⟨h.1, by omega, h.2.2.1⟩
set_option maxRecDepth 100000 in
set_option maxHeartbeats 8000000 in
theorem spec_WithBound (p : Pl) (b : Bd) (bs : Value) (w : World) (hv : Bds w 0 bs p.bs) (hlen : p.bs.length ≤ 1900000) :
    Calls Try.prog 94 #[.agg #[.int .i64 p.pts, bs], b.val] w (RetPlanB w (p.plus [b]).told (p.plus [b]).ok) := by
  unfold Bd.val
  have Hv := Lib.hid hv
  obtain ⟨a, cap, rfl, hn, hc, -⟩ := hv.open
  obtain ⟨i0, hi, hz0, hz1, hz2⟩ := info_parts info_bound
  have Hi := Lib.hid hi; have Hz0 := Lib.hid hz0; have Hz1 := Lib.hid hz1; have Hz2 := Lib.hid hz2
  clear hv hi hz0 hz1 hz2
  go_enter Try.func94, Try.ntmps94
  go_upto_region 1 with fail
  obtain ⟨W, hW, B0, B1, B2, hs, HB⟩ := three_boxes w #[Value.int IntKind.i64 p.pts, Value.slice a p.bs.length cap] #[.int .i64 b.f, .int .i64 b.t, .int .i64 b.m] #[.int .i64 0, .slice none 0 0] 25 78 25
  rw [← hW.out]
  go_cut [6] (fun v6 wx => OutPlan W ⟨p.pts, p.bs ++ [b]⟩ v6 wx)
  case first =>
    refine wp_region_tail 11 (by kernel_rfl) (by kernel_rfl) (fun w' => w'.cell? ⟨w.heap.size, 0, none⟩ = some (.int .i64 p.pts) ∧ w'.cell? ⟨w.heap.size, 1, none⟩ = some (.slice a p.bs.length cap) ∧ w'.cell? ⟨w.heap.size + 1, 0, none⟩ = some (.int .i64 b.f) ∧ w'.cell? ⟨w.heap.size + 1, 1, none⟩ = some (.int .i64 b.t) ∧ w'.cell? ⟨w.heap.size + 1, 2, none⟩ = some (.int .i64 b.m)) ⟨B0.cell0 rfl, B0.cell0 rfl, B1.cell0 rfl, B1.cell0 rfl, B1.cell0 rfl⟩ ?_
    intro hHeld
    obtain ⟨D, hD⟩ : ∃ D, Hid (D = W.drew) := ⟨_, rfl⟩
    have E := ext_drew (ext_refl W)
    have qD : W.heap.size ≤ D.heap.size := by rw [hD.out]; exact Nat.le_refl _
    rw [← hD.out] at E hHeld ⊢
    simp only [List.pop_toArray, List.dropLast]
    refine wpAnyH_take (i := 0) (v := ?_) rfl (by kernel_rfl) (by kernel_rfl) (by kernel_rfl) (fun _ _ _ h => h) (Or.inl ⟨by rfl, fun w' hS' => ?_⟩) (by assumption) ?_
    rotate_left
    · (try dsimp only at hS'); go_simp; (try rw [if_pos (by omega)]); try with_reducible rfl
    try simp only [Act.put, List.getElem_toArray, List.getElem_cons_zero, List.getElem_cons_succ, List.setIfInBounds_toArray, List.set_cons_zero, List.set_cons_succ]
    refine wpAnyH_take (i := 1) (v := ?_) rfl (by kernel_rfl) (by kernel_rfl) (by kernel_rfl) (fun _ _ _ h => h) (Or.inl ⟨by rfl, fun w' hS' => ?_⟩) (by assumption) ?_
    rotate_left
    · (try dsimp only at hS'); go_simp; (try rw [if_pos (by omega)]); try with_reducible rfl
    try simp only [Act.put, List.getElem_toArray, List.getElem_cons_zero, List.getElem_cons_succ, List.setIfInBounds_toArray, List.set_cons_zero, List.set_cons_succ]
    refine wpAnyH_take (i := 3) (v := ?_) rfl (by kernel_rfl) (by kernel_rfl) (by kernel_rfl) (fun _ _ _ h => h) (Or.inl ⟨by rfl, fun w' hS' => ?_⟩) (by assumption) ?_
    rotate_left
    · (try dsimp only at hS'); go_simp; (try rw [if_pos (by omega)]); try with_reducible rfl
    try simp only [Act.put, List.getElem_toArray, List.getElem_cons_zero, List.getElem_cons_succ, List.setIfInBounds_toArray, List.set_cons_zero, List.set_cons_succ]
    refine wpAnyH_take (i := 4) (v := ?_) rfl (by kernel_rfl) (by kernel_rfl) (by kernel_rfl) (fun _ _ _ h => h) (Or.inl ⟨by rfl, fun w' hS' => ?_⟩) (by assumption) ?_
    rotate_left
    · (try dsimp only at hS'); go_simp; (try rw [if_pos (by omega)]); try with_reducible rfl
    try simp only [Act.put, List.getElem_toArray, List.getElem_cons_zero, List.getElem_cons_succ, List.setIfInBounds_toArray, List.set_cons_zero, List.set_cons_succ]
    refine wpAnyH_take (i := 6) (v := ?_) rfl (by kernel_rfl) (by kernel_rfl) (by kernel_rfl) (fun _ _ _ h => h) (Or.inl ⟨by rfl, fun w' hS' => ?_⟩) (by assumption) ?_
    rotate_left
    · (try dsimp only at hS'); go_simp; (try rw [if_pos (by omega)]); try with_reducible rfl
    try simp only [Act.put, List.getElem_toArray, List.getElem_cons_zero, List.getElem_cons_succ, List.setIfInBounds_toArray, List.set_cons_zero, List.set_cons_succ]
    refine wpAnyH_ready (rs := [2, 7, 10]) (by kernel_rfl) (by simp) ?_
    refine AllReadyH.cons rfl (fun K' hK => ?_) (AllReadyH.cons rfl (fun K' hK => ?_) (AllReadyH.cons rfl (fun K' hK => ?_) AllReadyH.nil))
    · refine if_yes (by rfl) ?_
      try simp only [Act.put, List.getElem_toArray, List.getElem_cons_zero, List.getElem_cons_succ, List.setIfInBounds_toArray, List.set_cons_zero, List.set_cons_succ]
      go_simp
      have E := ext_alloc E (.cells #[] 78)
      have Ha := World.ownsRow_lit (base := W.heap.size) (e := 78) (size := 3) (D) #[] 0 (by first | exact Nat.le_refl _ | (simp only [World.size_alloc]; omega) | omega) (by decide) rfl
      try simp only [World.size_alloc] at Ha
      refine hK.out _ _ ?_ (fun hHeld => ?_)
      · exact ⟨(B0.ext E).cell0 rfl, (B0.ext E).cell0 rfl, (B1.ext E).cell0 rfl, (B1.ext E).cell0 rfl, (B1.ext E).cell0 rfl⟩
      clear hK K'
      try simp only [Act.put, List.getElem_toArray, List.getElem_cons_zero, List.getElem_cons_succ, List.setIfInBounds_toArray, List.set_cons_zero, List.set_cons_succ]
      refine wpAnyH_ready (rs := [5, 7, 10]) (by kernel_rfl) (by simp) ?_
      refine AllReadyH.cons rfl (fun K' hK => ?_) (AllReadyH.cons rfl (fun K' hK => ?_) (AllReadyH.cons rfl (fun K' hK => ?_) AllReadyH.nil))
      · refine if_yes (by rfl) ?_
        try simp only [Act.put, List.getElem_toArray, List.getElem_cons_zero, List.getElem_cons_succ, List.setIfInBounds_toArray, List.set_cons_zero, List.set_cons_succ]
        refine wp_app _ (.tmp 9) (.tmp 11) 23 rfl W.heap.size 0 78 i0 _ 3 24 Try.underlying23 Hi.out Hz0.out Hz1.out Hz2.out rfl (by decide) (.slice (some ⟨D.heap.size, 0, none⟩) 0 0) (0) _ rfl Ha (.slice a p.bs.length cap) p.bs.length (bcells p.bs) rfl (Hv.out.ext (ext_trans HB E)) (bcells_one _) ?_ ?_ ?_ ?_
        · unfold maxLen; omega
        · omega
        · first | omega | (simp only [World.size_alloc, World.size_drew]; omega)
        intro v1 w1 hown hgrow
        try simp only [Nat.zero_add, List.nil_append] at hown
        have E := ext_grown E hgrow (fun k hk => (own_lt Ha k hk).1)
        have q1 := hgrow.size
        try simp only [World.size_alloc] at q1
        obtain ⟨a1, c1, rfl, -⟩ := own_open hown
        have Ha := hown
        clear hown hgrow
        refine hK.out _ _ ?_ (fun hHeld => ?_)
        · exact ⟨(B0.ext E).cell0 rfl, (B0.ext E).cell0 rfl, (B1.ext E).cell0 rfl, (B1.ext E).cell0 rfl, (B1.ext E).cell0 rfl⟩
        clear hK K'
        try simp only [Act.put, List.getElem_toArray, List.getElem_cons_zero, List.getElem_cons_succ, List.setIfInBounds_toArray, List.set_cons_zero, List.set_cons_succ]
        refine wpAnyH_ready (rs := [7, 10]) (by kernel_rfl) (by simp) ?_
        refine AllReadyH.cons rfl (fun K' hK => ?_) (AllReadyH.cons rfl (fun K' hK => ?_) AllReadyH.nil)
        · refine if_yes (by rfl) ?_
          try simp only [Act.put, List.getElem_toArray, List.getElem_cons_zero, List.getElem_cons_succ, List.setIfInBounds_toArray, List.set_cons_zero, List.set_cons_succ]
          go_simp
          have Ha := World.ownsRow.alloc Ha (.cells #[.int .i64 b.f, .int .i64 b.t, .int .i64 b.m] 78)
          have E := ext_alloc E (.cells #[.int .i64 b.f, .int .i64 b.t, .int .i64 b.m] 78)
          have Hl := World.ownsRow_lit (base := 0) (e := 78) (size := 3) (w1) #[.int .i64 b.f, .int .i64 b.t, .int .i64 b.m] 1 (Nat.zero_le _) (by decide) rfl
          try simp only [World.size_alloc] at Hl
          refine hK.out _ _ ?_ (fun hHeld => ?_)
          · exact ⟨(B0.ext E).cell0 rfl, (B0.ext E).cell0 rfl, (B1.ext E).cell0 rfl, (B1.ext E).cell0 rfl, (B1.ext E).cell0 rfl⟩
          clear hK K'
          try simp only [Act.put, List.getElem_toArray, List.getElem_cons_zero, List.getElem_cons_succ, List.setIfInBounds_toArray, List.set_cons_zero, List.set_cons_succ]
          refine wpAnyH_ready (rs := [8, 10]) (by kernel_rfl) (by simp) ?_
          refine AllReadyH.cons rfl (fun K' hK => ?_) (AllReadyH.cons rfl (fun K' hK => ?_) AllReadyH.nil)
          · refine if_yes (by rfl) ?_
            try simp only [Act.put, List.getElem_toArray, List.getElem_cons_zero, List.getElem_cons_succ, List.setIfInBounds_toArray, List.set_cons_zero, List.set_cons_succ]
            refine wp_app _ (.tmp 12) (.tmp 14) 23 rfl W.heap.size 0 78 i0 _ 3 24 Try.underlying23 Hi.out Hz0.out Hz1.out Hz2.out rfl (by decide) (.slice a1 (p.bs.length) c1) (p.bs.length) _ rfl Ha (.slice (some ⟨w1.heap.size, 0, none⟩) 1 1) 1 (bcells [b]) rfl (Hl) (bcells_one _) ?_ ?_ ?_ ?_
            · unfold maxLen; omega
            · omega
            · first | omega | (simp only [World.size_alloc, World.size_drew]; omega)
            intro v2 w2 hown hgrow
            try simp only [Nat.zero_add, List.nil_append] at hown
            have E := ext_grown E hgrow (fun k hk => (own_lt Ha k hk).1)
            have q2 := hgrow.size
            try simp only [World.size_alloc] at q2
            obtain ⟨a2, c2, rfl, -⟩ := own_open hown
            have Ha := hown
            clear hown hgrow
            refine hK.out _ _ ?_ (fun hHeld => ?_)
            · exact ⟨(B0.ext E).cell0 rfl, (B0.ext E).cell0 rfl, (B1.ext E).cell0 rfl, (B1.ext E).cell0 rfl, (B1.ext E).cell0 rfl⟩
            clear hK K'
            try simp only [Act.put, List.getElem_toArray, List.getElem_cons_zero, List.getElem_cons_succ, List.setIfInBounds_toArray, List.set_cons_zero, List.set_cons_succ]
            refine wpAnyH_take (i := 9) (v := ?_) rfl (by kernel_rfl) (by kernel_rfl) (by kernel_rfl) (fun _ _ _ h => h) (Or.inl ⟨by rfl, fun w' hS' => ?_⟩) (by assumption) ?_
            rotate_left
            · (try dsimp only at hS'); go_simp; (try rw [if_pos (by omega)]); try with_reducible rfl
            try simp only [Act.put, List.getElem_toArray, List.getElem_cons_zero, List.getElem_cons_succ, List.setIfInBounds_toArray, List.set_cons_zero, List.set_cons_succ]
            refine wpAnyH_ready (rs := [10]) (by kernel_rfl) (by simp) ?_
            refine AllReadyH.cons rfl (fun K' hK => ?_) AllReadyH.nil
            refine if_yes (by rfl) ?_
            try simp only [Act.put, List.getElem_toArray, List.getElem_cons_zero, List.getElem_cons_succ, List.setIfInBounds_toArray, List.set_cons_zero, List.set_cons_succ]
            go_simp
            have Ha := World.ownsRow.alloc Ha (.cells #[.int .i64 0, .slice none 0 0] 25)
            have E := ext_alloc E (.cells #[.int .i64 0, .slice none 0 0] 25)
            have Ho := Box.new (w2) 25 #[.int .i64 0, .slice none 0 0]
            try simp only [World.size_alloc] at Ho
            obtain ⟨w3, hw3⟩ : ∃ w3, Hid (w3 = (w2).alloc (.cells #[.int .i64 0, .slice none 0 0] 25)) := ⟨_, rfl⟩
            have q3 : (w2).heap.size < w3.heap.size := by rw [hw3.out]; simp only [World.size_alloc]; omega
            try simp only [World.size_alloc] at q3
            rw [← hw3.out] at Ho E ⊢
            rw [← hw3.out] at Ha
            refine hK.out _ _ ?_ (fun hHeld => ?_)
            · exact ⟨(B0.ext E).cell0 rfl, (B0.ext E).cell0 rfl, (B1.ext E).cell0 rfl, (B1.ext E).cell0 rfl, (B1.ext E).cell0 rfl⟩
            clear hK K'
            try simp only [Act.put, List.getElem_toArray, List.getElem_cons_zero, List.getElem_cons_succ, List.setIfInBounds_toArray, List.set_cons_zero, List.set_cons_succ]
            obtain ⟨rco, rzo⟩ := (Ho).rules; have rlo := (Ho).lt
            refine wpAnyH_done (by kernel_rfl) ?_ _
            refine tail_step rfl (fun K' hK => ?_)
            refine if_yes (by rfl) ?_
            try simp only [Act.put, List.getElem_toArray, List.getElem_cons_zero, List.getElem_cons_succ, List.setIfInBounds_toArray, List.set_cons_zero, List.set_cons_succ]
            go_simp
            refine hK _ _ ?_
            clear hK K'
            try simp only [Act.put, List.getElem_toArray, List.getElem_cons_zero, List.getElem_cons_succ, List.setIfInBounds_toArray, List.set_cons_zero, List.set_cons_succ]
            go_wp2_with fail
            go_meet
            exact out_done (p := ⟨p.pts, p.bs ++ [b]⟩) Ho (by simp only [bcells_append]; exact Ha) (by omega) E
          · refine if_yes (by rfl) ?_
            try simp only [Act.put, List.getElem_toArray, List.getElem_cons_zero, List.getElem_cons_succ, List.setIfInBounds_toArray, List.set_cons_zero, List.set_cons_succ]
            go_simp
            have Ha := World.ownsRow.alloc Ha (.cells #[.int .i64 0, .slice none 0 0] 25)
            have Hl := World.ownsRow.alloc Hl (.cells #[.int .i64 0, .slice none 0 0] 25)
            have E := ext_alloc E (.cells #[.int .i64 0, .slice none 0 0] 25)
            have Ho := Box.new ((w1).alloc (.cells #[.int .i64 b.f, .int .i64 b.t, .int .i64 b.m] 78)) 25 #[.int .i64 0, .slice none 0 0]
            try simp only [World.size_alloc] at Ho
            obtain ⟨w4, hw4⟩ : ∃ w4, Hid (w4 = ((w1).alloc (.cells #[.int .i64 b.f, .int .i64 b.t, .int .i64 b.m] 78)).alloc (.cells #[.int .i64 0, .slice none 0 0] 25)) := ⟨_, rfl⟩
            have q4 : ((w1).alloc (.cells #[.int .i64 b.f, .int .i64 b.t, .int .i64 b.m] 78)).heap.size < w4.heap.size := by rw [hw4.out]; simp only [World.size_alloc]; omega
            try simp only [World.size_alloc] at q4
            rw [← hw4.out] at Ho E ⊢
            rw [← hw4.out] at Ha
            rw [← hw4.out] at Hl
            refine hK.out _ _ ?_ (fun hHeld => ?_)
            · exact ⟨(B0.ext E).cell0 rfl, (B0.ext E).cell0 rfl, (B1.ext E).cell0 rfl, (B1.ext E).cell0 rfl, (B1.ext E).cell0 rfl⟩
            clear hK K'
            try simp only [Act.put, List.getElem_toArray, List.getElem_cons_zero, List.getElem_cons_succ, List.setIfInBounds_toArray, List.set_cons_zero, List.set_cons_succ]
            refine wpAnyH_ready (rs := [8]) (by kernel_rfl) (by simp) ?_
            refine AllReadyH.cons rfl (fun K' hK => ?_) AllReadyH.nil
            refine if_yes (by rfl) ?_
            try simp only [Act.put, List.getElem_toArray, List.getElem_cons_zero, List.getElem_cons_succ, List.setIfInBounds_toArray, List.set_cons_zero, List.set_cons_succ]
            refine wp_app _ (.tmp 12) (.tmp 14) 23 rfl W.heap.size 0 78 i0 _ 3 24 Try.underlying23 Hi.out Hz0.out Hz1.out Hz2.out rfl (by decide) (.slice a1 (p.bs.length) c1) (p.bs.length) _ rfl Ha (.slice (some ⟨w1.heap.size, 0, none⟩) 1 1) 1 (bcells [b]) rfl (Hl) (bcells_one _) ?_ ?_ ?_ ?_
            · unfold maxLen; omega
            · omega
            · first | omega | (simp only [World.size_alloc, World.size_drew]; omega)
            intro v5 w5 hown hgrow
            try simp only [Nat.zero_add, List.nil_append] at hown
            have Ho := Ho.grown hgrow (own_not_box Ha Ho)
            have E := ext_grown E hgrow (fun k hk => (own_lt Ha k hk).1)
            have q5 := hgrow.size
            try simp only [World.size_alloc] at q5
            obtain ⟨a5, c5, rfl, -⟩ := own_open hown
            have Ha := hown
            clear hown hgrow
            refine hK.out _ _ ?_ (fun hHeld => ?_)
            · exact ⟨(B0.ext E).cell0 rfl, (B0.ext E).cell0 rfl, (B1.ext E).cell0 rfl, (B1.ext E).cell0 rfl, (B1.ext E).cell0 rfl⟩
            clear hK K'
            try simp only [Act.put, List.getElem_toArray, List.getElem_cons_zero, List.getElem_cons_succ, List.setIfInBounds_toArray, List.set_cons_zero, List.set_cons_succ]
            refine wpAnyH_take (i := 9) (v := ?_) rfl (by kernel_rfl) (by kernel_rfl) (by kernel_rfl) (fun _ _ _ h => h) (Or.inl ⟨by rfl, fun w' hS' => ?_⟩) (by assumption) ?_
            rotate_left
            · (try dsimp only at hS'); go_simp; (try rw [if_pos (by omega)]); try with_reducible rfl
            try simp only [Act.put, List.getElem_toArray, List.getElem_cons_zero, List.getElem_cons_succ, List.setIfInBounds_toArray, List.set_cons_zero, List.set_cons_succ]
            obtain ⟨rco, rzo⟩ := (Ho).rules; have rlo := (Ho).lt
            refine wpAnyH_done (by kernel_rfl) ?_ _
            refine tail_step rfl (fun K' hK => ?_)
            refine if_yes (by rfl) ?_
            try simp only [Act.put, List.getElem_toArray, List.getElem_cons_zero, List.getElem_cons_succ, List.setIfInBounds_toArray, List.set_cons_zero, List.set_cons_succ]
            go_simp
            refine hK _ _ ?_
            clear hK K'
            try simp only [Act.put, List.getElem_toArray, List.getElem_cons_zero, List.getElem_cons_succ, List.setIfInBounds_toArray, List.set_cons_zero, List.set_cons_succ]
            go_wp2_with fail
            go_meet
            exact out_done (p := ⟨p.pts, p.bs ++ [b]⟩) Ho (by simp only [bcells_append]; exact Ha) (by omega) E
        · refine if_yes (by rfl) ?_
          try simp only [Act.put, List.getElem_toArray, List.getElem_cons_zero, List.getElem_cons_succ, List.setIfInBounds_toArray, List.set_cons_zero, List.set_cons_succ]
          go_simp
          have Ha := World.ownsRow.alloc Ha (.cells #[.int .i64 0, .slice none 0 0] 25)
          have E := ext_alloc E (.cells #[.int .i64 0, .slice none 0 0] 25)
          have Ho := Box.new (w1) 25 #[.int .i64 0, .slice none 0 0]
          try simp only [World.size_alloc] at Ho
          obtain ⟨w6, hw6⟩ : ∃ w6, Hid (w6 = (w1).alloc (.cells #[.int .i64 0, .slice none 0 0] 25)) := ⟨_, rfl⟩
          have q6 : (w1).heap.size < w6.heap.size := by rw [hw6.out]; simp only [World.size_alloc]; omega
          try simp only [World.size_alloc] at q6
          rw [← hw6.out] at Ho E ⊢
          rw [← hw6.out] at Ha
          refine hK.out _ _ ?_ (fun hHeld => ?_)
          · exact ⟨(B0.ext E).cell0 rfl, (B0.ext E).cell0 rfl, (B1.ext E).cell0 rfl, (B1.ext E).cell0 rfl, (B1.ext E).cell0 rfl⟩
          clear hK K'
          try simp only [Act.put, List.getElem_toArray, List.getElem_cons_zero, List.getElem_cons_succ, List.setIfInBounds_toArray, List.set_cons_zero, List.set_cons_succ]
          refine wpAnyH_ready (rs := [7]) (by kernel_rfl) (by simp) ?_
          refine AllReadyH.cons rfl (fun K' hK => ?_) AllReadyH.nil
          refine if_yes (by rfl) ?_
          try simp only [Act.put, List.getElem_toArray, List.getElem_cons_zero, List.getElem_cons_succ, List.setIfInBounds_toArray, List.set_cons_zero, List.set_cons_succ]
          go_simp
          have Ha := World.ownsRow.alloc Ha (.cells #[.int .i64 b.f, .int .i64 b.t, .int .i64 b.m] 78)
          have Ho := Ho.alloc (.cells #[.int .i64 b.f, .int .i64 b.t, .int .i64 b.m] 78)
          have E := ext_alloc E (.cells #[.int .i64 b.f, .int .i64 b.t, .int .i64 b.m] 78)
          have Hl := World.ownsRow_lit (base := 0) (e := 78) (size := 3) (w6) #[.int .i64 b.f, .int .i64 b.t, .int .i64 b.m] 1 (Nat.zero_le _) (by decide) rfl
          try simp only [World.size_alloc] at Hl
          refine hK.out _ _ ?_ (fun hHeld => ?_)
          · exact ⟨(B0.ext E).cell0 rfl, (B0.ext E).cell0 rfl, (B1.ext E).cell0 rfl, (B1.ext E).cell0 rfl, (B1.ext E).cell0 rfl⟩
          clear hK K'
          try simp only [Act.put, List.getElem_toArray, List.getElem_cons_zero, List.getElem_cons_succ, List.setIfInBounds_toArray, List.set_cons_zero, List.set_cons_succ]
          refine wpAnyH_ready (rs := [8]) (by kernel_rfl) (by simp) ?_
          refine AllReadyH.cons rfl (fun K' hK => ?_) AllReadyH.nil
          refine if_yes (by rfl) ?_
          try simp only [Act.put, List.getElem_toArray, List.getElem_cons_zero, List.getElem_cons_succ, List.setIfInBounds_toArray, List.set_cons_zero, List.set_cons_succ]
          refine wp_app _ (.tmp 12) (.tmp 14) 23 rfl W.heap.size 0 78 i0 _ 3 24 Try.underlying23 Hi.out Hz0.out Hz1.out Hz2.out rfl (by decide) (.slice a1 (p.bs.length) c1) (p.bs.length) _ rfl Ha (.slice (some ⟨w6.heap.size, 0, none⟩) 1 1) 1 (bcells [b]) rfl (Hl) (bcells_one _) ?_ ?_ ?_ ?_
          · unfold maxLen; omega
          · omega
          · first | omega | (simp only [World.size_alloc, World.size_drew]; omega)
          intro v7 w7 hown hgrow
          try simp only [Nat.zero_add, List.nil_append] at hown
          have Ho := Ho.grown hgrow (own_not_box Ha Ho)
          have E := ext_grown E hgrow (fun k hk => (own_lt Ha k hk).1)
          have q7 := hgrow.size
          try simp only [World.size_alloc] at q7
          obtain ⟨a7, c7, rfl, -⟩ := own_open hown
          have Ha := hown
          clear hown hgrow
          refine hK.out _ _ ?_ (fun hHeld => ?_)
          · exact ⟨(B0.ext E).cell0 rfl, (B0.ext E).cell0 rfl, (B1.ext E).cell0 rfl, (B1.ext E).cell0 rfl, (B1.ext E).cell0 rfl⟩
          clear hK K'
          try simp only [Act.put, List.getElem_toArray, List.getElem_cons_zero, List.getElem_cons_succ, List.setIfInBounds_toArray, List.set_cons_zero, List.set_cons_succ]
          refine wpAnyH_take (i := 9) (v := ?_) rfl (by kernel_rfl) (by kernel_rfl) (by kernel_rfl) (fun _ _ _ h => h) (Or.inl ⟨by rfl, fun w' hS' => ?_⟩) (by assumption) ?_
          rotate_left
          · (try dsimp only at hS'); go_simp; (try rw [if_pos (by omega)]); try with_reducible rfl
          try simp only [Act.put, List.getElem_toArray, List.getElem_cons_zero, List.getElem_cons_succ, List.setIfInBounds_toArray, List.set_cons_zero, List.set_cons_succ]
          obtain ⟨rco, rzo⟩ := (Ho).rules; have rlo := (Ho).lt
          refine wpAnyH_done (by kernel_rfl) ?_ _
          refine tail_step rfl (fun K' hK => ?_)
          refine if_yes (by rfl) ?_
          try simp only [Act.put, List.getElem_toArray, List.getElem_cons_zero, List.getElem_cons_succ, List.setIfInBounds_toArray, List.set_cons_zero, List.set_cons_succ]
          go_simp
          refine hK _ _ ?_
          clear hK K'
          try simp only [Act.put, List.getElem_toArray, List.getElem_cons_zero, List.getElem_cons_succ, List.setIfInBounds_toArray, List.set_cons_zero, List.set_cons_succ]
          go_wp2_with fail
          go_meet
          exact out_done (p := ⟨p.pts, p.bs ++ [b]⟩) Ho (by simp only [bcells_append]; exact Ha) (by omega) E
      · refine if_yes (by rfl) ?_
        try simp only [Act.put, List.getElem_toArray, List.getElem_cons_zero, List.getElem_cons_succ, List.setIfInBounds_toArray, List.set_cons_zero, List.set_cons_succ]
        go_simp
        have Ha := World.ownsRow.alloc Ha (.cells #[.int .i64 b.f, .int .i64 b.t, .int .i64 b.m] 78)
        have E := ext_alloc E (.cells #[.int .i64 b.f, .int .i64 b.t, .int .i64 b.m] 78)
        have Hl := World.ownsRow_lit (base := 0) (e := 78) (size := 3) ((D).alloc (.cells #[] 78)) #[.int .i64 b.f, .int .i64 b.t, .int .i64 b.m] 1 (Nat.zero_le _) (by decide) rfl
        try simp only [World.size_alloc] at Hl
        refine hK.out _ _ ?_ (fun hHeld => ?_)
        · exact ⟨(B0.ext E).cell0 rfl, (B0.ext E).cell0 rfl, (B1.ext E).cell0 rfl, (B1.ext E).cell0 rfl, (B1.ext E).cell0 rfl⟩
        clear hK K'
        try simp only [Act.put, List.getElem_toArray, List.getElem_cons_zero, List.getElem_cons_succ, List.setIfInBounds_toArray, List.set_cons_zero, List.set_cons_succ]
        refine wpAnyH_ready (rs := [5, 10]) (by kernel_rfl) (by simp) ?_
        refine AllReadyH.cons rfl (fun K' hK => ?_) (AllReadyH.cons rfl (fun K' hK => ?_) AllReadyH.nil)
        · refine if_yes (by rfl) ?_
          try simp only [Act.put, List.getElem_toArray, List.getElem_cons_zero, List.getElem_cons_succ, List.setIfInBounds_toArray, List.set_cons_zero, List.set_cons_succ]
          refine wp_app _ (.tmp 9) (.tmp 11) 23 rfl W.heap.size 0 78 i0 _ 3 24 Try.underlying23 Hi.out Hz0.out Hz1.out Hz2.out rfl (by decide) (.slice (some ⟨D.heap.size, 0, none⟩) 0 0) (0) _ rfl Ha (.slice a p.bs.length cap) p.bs.length (bcells p.bs) rfl (Hv.out.ext (ext_trans HB E)) (bcells_one _) ?_ ?_ ?_ ?_
          · unfold maxLen; omega
          · omega
          · first | omega | (simp only [World.size_alloc, World.size_drew]; omega)
          intro v8 w8 hown hgrow
          try simp only [Nat.zero_add, List.nil_append] at hown
          have Hl := own_far Hl hgrow (fun k hk e => by simp [Value.ownBlock] at hk e; omega)
          have E := ext_grown E hgrow (fun k hk => (own_lt Ha k hk).1)
          have q8 := hgrow.size
          try simp only [World.size_alloc] at q8
          obtain ⟨a8, c8, rfl, -⟩ := own_open hown
          have Ha := hown
          clear hown hgrow
          refine hK.out _ _ ?_ (fun hHeld => ?_)
          · exact ⟨(B0.ext E).cell0 rfl, (B0.ext E).cell0 rfl, (B1.ext E).cell0 rfl, (B1.ext E).cell0 rfl, (B1.ext E).cell0 rfl⟩
          clear hK K'
          try simp only [Act.put, List.getElem_toArray, List.getElem_cons_zero, List.getElem_cons_succ, List.setIfInBounds_toArray, List.set_cons_zero, List.set_cons_succ]
          refine wpAnyH_ready (rs := [8, 10]) (by kernel_rfl) (by simp) ?_
          refine AllReadyH.cons rfl (fun K' hK => ?_) (AllReadyH.cons rfl (fun K' hK => ?_) AllReadyH.nil)
          · refine if_yes (by rfl) ?_
            try simp only [Act.put, List.getElem_toArray, List.getElem_cons_zero, List.getElem_cons_succ, List.setIfInBounds_toArray, List.set_cons_zero, List.set_cons_succ]
            refine wp_app _ (.tmp 12) (.tmp 14) 23 rfl W.heap.size 0 78 i0 _ 3 24 Try.underlying23 Hi.out Hz0.out Hz1.out Hz2.out rfl (by decide) (.slice a8 (p.bs.length) c8) (p.bs.length) _ rfl Ha (.slice (some ⟨D.heap.size + 1, 0, none⟩) 1 1) 1 (bcells [b]) rfl (Hl) (bcells_one _) ?_ ?_ ?_ ?_
            · unfold maxLen; omega
            · omega
            · first | omega | (simp only [World.size_alloc, World.size_drew]; omega)
            intro v9 w9 hown hgrow
            try simp only [Nat.zero_add, List.nil_append] at hown
            have E := ext_grown E hgrow (fun k hk => (own_lt Ha k hk).1)
            have q9 := hgrow.size
            try simp only [World.size_alloc] at q9
            obtain ⟨a9, c9, rfl, -⟩ := own_open hown
            have Ha := hown
            clear hown hgrow
            refine hK.out _ _ ?_ (fun hHeld => ?_)
            · exact ⟨(B0.ext E).cell0 rfl, (B0.ext E).cell0 rfl, (B1.ext E).cell0 rfl, (B1.ext E).cell0 rfl, (B1.ext E).cell0 rfl⟩
            clear hK K'
            try simp only [Act.put, List.getElem_toArray, List.getElem_cons_zero, List.getElem_cons_succ, List.setIfInBounds_toArray, List.set_cons_zero, List.set_cons_succ]
            refine wpAnyH_take (i := 9) (v := ?_) rfl (by kernel_rfl) (by kernel_rfl) (by kernel_rfl) (fun _ _ _ h => h) (Or.inl ⟨by rfl, fun w' hS' => ?_⟩) (by assumption) ?_
            rotate_left
            · (try dsimp only at hS'); go_simp; (try rw [if_pos (by omega)]); try with_reducible rfl
            try simp only [Act.put, List.getElem_toArray, List.getElem_cons_zero, List.getElem_cons_succ, List.setIfInBounds_toArray, List.set_cons_zero, List.set_cons_succ]
            refine wpAnyH_ready (rs := [10]) (by kernel_rfl) (by simp) ?_
            refine AllReadyH.cons rfl (fun K' hK => ?_) AllReadyH.nil
            refine if_yes (by rfl) ?_
            try simp only [Act.put, List.getElem_toArray, List.getElem_cons_zero, List.getElem_cons_succ, List.setIfInBounds_toArray, List.set_cons_zero, List.set_cons_succ]
            go_simp
            have Ha := World.ownsRow.alloc Ha (.cells #[.int .i64 0, .slice none 0 0] 25)
            have E := ext_alloc E (.cells #[.int .i64 0, .slice none 0 0] 25)
            have Ho := Box.new (w9) 25 #[.int .i64 0, .slice none 0 0]
            try simp only [World.size_alloc] at Ho
            obtain ⟨w10, hw10⟩ : ∃ w10, Hid (w10 = (w9).alloc (.cells #[.int .i64 0, .slice none 0 0] 25)) := ⟨_, rfl⟩
            have q10 : (w9).heap.size < w10.heap.size := by rw [hw10.out]; simp only [World.size_alloc]; omega
            try simp only [World.size_alloc] at q10
            rw [← hw10.out] at Ho E ⊢
            rw [← hw10.out] at Ha
            refine hK.out _ _ ?_ (fun hHeld => ?_)
            · exact ⟨(B0.ext E).cell0 rfl, (B0.ext E).cell0 rfl, (B1.ext E).cell0 rfl, (B1.ext E).cell0 rfl, (B1.ext E).cell0 rfl⟩
            clear hK K'
            try simp only [Act.put, List.getElem_toArray, List.getElem_cons_zero, List.getElem_cons_succ, List.setIfInBounds_toArray, List.set_cons_zero, List.set_cons_succ]
            obtain ⟨rco, rzo⟩ := (Ho).rules; have rlo := (Ho).lt
            refine wpAnyH_done (by kernel_rfl) ?_ _
            refine tail_step rfl (fun K' hK => ?_)
            refine if_yes (by rfl) ?_
            try simp only [Act.put, List.getElem_toArray, List.getElem_cons_zero, List.getElem_cons_succ, List.setIfInBounds_toArray, List.set_cons_zero, List.set_cons_succ]
            go_simp
            refine hK _ _ ?_
            clear hK K'
            try simp only [Act.put, List.getElem_toArray, List.getElem_cons_zero, List.getElem_cons_succ, List.setIfInBounds_toArray, List.set_cons_zero, List.set_cons_succ]
            go_wp2_with fail
            go_meet
            exact out_done (p := ⟨p.pts, p.bs ++ [b]⟩) Ho (by simp only [bcells_append]; exact Ha) (by omega) E
          · refine if_yes (by rfl) ?_
            try simp only [Act.put, List.getElem_toArray, List.getElem_cons_zero, List.getElem_cons_succ, List.setIfInBounds_toArray, List.set_cons_zero, List.set_cons_succ]
            go_simp
            have Ha := World.ownsRow.alloc Ha (.cells #[.int .i64 0, .slice none 0 0] 25)
            have Hl := World.ownsRow.alloc Hl (.cells #[.int .i64 0, .slice none 0 0] 25)
            have E := ext_alloc E (.cells #[.int .i64 0, .slice none 0 0] 25)
            have Ho := Box.new (w8) 25 #[.int .i64 0, .slice none 0 0]
            try simp only [World.size_alloc] at Ho
            obtain ⟨w11, hw11⟩ : ∃ w11, Hid (w11 = (w8).alloc (.cells #[.int .i64 0, .slice none 0 0] 25)) := ⟨_, rfl⟩
            have q11 : (w8).heap.size < w11.heap.size := by rw [hw11.out]; simp only [World.size_alloc]; omega
            try simp only [World.size_alloc] at q11
            rw [← hw11.out] at Ho E ⊢
            rw [← hw11.out] at Ha
            rw [← hw11.out] at Hl
            refine hK.out _ _ ?_ (fun hHeld => ?_)
            · exact ⟨(B0.ext E).cell0 rfl, (B0.ext E).cell0 rfl, (B1.ext E).cell0 rfl, (B1.ext E).cell0 rfl, (B1.ext E).cell0 rfl⟩
            clear hK K'
            try simp only [Act.put, List.getElem_toArray, List.getElem_cons_zero, List.getElem_cons_succ, List.setIfInBounds_toArray, List.set_cons_zero, List.set_cons_succ]
            refine wpAnyH_ready (rs := [8]) (by kernel_rfl) (by simp) ?_
            refine AllReadyH.cons rfl (fun K' hK => ?_) AllReadyH.nil
            refine if_yes (by rfl) ?_
            try simp only [Act.put, List.getElem_toArray, List.getElem_cons_zero, List.getElem_cons_succ, List.setIfInBounds_toArray, List.set_cons_zero, List.set_cons_succ]
            refine wp_app _ (.tmp 12) (.tmp 14) 23 rfl W.heap.size 0 78 i0 _ 3 24 Try.underlying23 Hi.out Hz0.out Hz1.out Hz2.out rfl (by decide) (.slice a8 (p.bs.length) c8) (p.bs.length) _ rfl Ha (.slice (some ⟨D.heap.size + 1, 0, none⟩) 1 1) 1 (bcells [b]) rfl (Hl) (bcells_one _) ?_ ?_ ?_ ?_
            · unfold maxLen; omega
            · omega
            · first | omega | (simp only [World.size_alloc, World.size_drew]; omega)
            intro v12 w12 hown hgrow
            try simp only [Nat.zero_add, List.nil_append] at hown
            have Ho := Ho.grown hgrow (own_not_box Ha Ho)
            have E := ext_grown E hgrow (fun k hk => (own_lt Ha k hk).1)
            have q12 := hgrow.size
            try simp only [World.size_alloc] at q12
            obtain ⟨a12, c12, rfl, -⟩ := own_open hown
            have Ha := hown
            clear hown hgrow
            refine hK.out _ _ ?_ (fun hHeld => ?_)
            · exact ⟨(B0.ext E).cell0 rfl, (B0.ext E).cell0 rfl, (B1.ext E).cell0 rfl, (B1.ext E).cell0 rfl, (B1.ext E).cell0 rfl⟩
            clear hK K'
            try simp only [Act.put, List.getElem_toArray, List.getElem_cons_zero, List.getElem_cons_succ, List.setIfInBounds_toArray, List.set_cons_zero, List.set_cons_succ]
            refine wpAnyH_take (i := 9) (v := ?_) rfl (by kernel_rfl) (by kernel_rfl) (by kernel_rfl) (fun _ _ _ h => h) (Or.inl ⟨by rfl, fun w' hS' => ?_⟩) (by assumption) ?_
            rotate_left
            · (try dsimp only at hS'); go_simp; (try rw [if_pos (by omega)]); try with_reducible rfl
            try simp only [Act.put, List.getElem_toArray, List.getElem_cons_zero, List.getElem_cons_succ, List.setIfInBounds_toArray, List.set_cons_zero, List.set_cons_succ]
            obtain ⟨rco, rzo⟩ := (Ho).rules; have rlo := (Ho).lt
            refine wpAnyH_done (by kernel_rfl) ?_ _
            refine tail_step rfl (fun K' hK => ?_)
            refine if_yes (by rfl) ?_
            try simp only [Act.put, List.getElem_toArray, List.getElem_cons_zero, List.getElem_cons_succ, List.setIfInBounds_toArray, List.set_cons_zero, List.set_cons_succ]
            go_simp
            refine hK _ _ ?_
            clear hK K'
            try simp only [Act.put, List.getElem_toArray, List.getElem_cons_zero, List.getElem_cons_succ, List.setIfInBounds_toArray, List.set_cons_zero, List.set_cons_succ]
            go_wp2_with fail
            go_meet
            exact out_done (p := ⟨p.pts, p.bs ++ [b]⟩) Ho (by simp only [bcells_append]; exact Ha) (by omega) E
        · refine if_yes (by rfl) ?_
          try simp only [Act.put, List.getElem_toArray, List.getElem_cons_zero, List.getElem_cons_succ, List.setIfInBounds_toArray, List.set_cons_zero, List.set_cons_succ]
          go_simp
          have Ha := World.ownsRow.alloc Ha (.cells #[.int .i64 0, .slice none 0 0] 25)
          have Hl := World.ownsRow.alloc Hl (.cells #[.int .i64 0, .slice none 0 0] 25)
          have E := ext_alloc E (.cells #[.int .i64 0, .slice none 0 0] 25)
          have Ho := Box.new (((D).alloc (.cells #[] 78)).alloc (.cells #[.int .i64 b.f, .int .i64 b.t, .int .i64 b.m] 78)) 25 #[.int .i64 0, .slice none 0 0]
          try simp only [World.size_alloc] at Ho
          obtain ⟨w13, hw13⟩ : ∃ w13, Hid (w13 = (((D).alloc (.cells #[] 78)).alloc (.cells #[.int .i64 b.f, .int .i64 b.t, .int .i64 b.m] 78)).alloc (.cells #[.int .i64 0, .slice none 0 0] 25)) := ⟨_, rfl⟩
          have q13 : (((D).alloc (.cells #[] 78)).alloc (.cells #[.int .i64 b.f, .int .i64 b.t, .int .i64 b.m] 78)).heap.size < w13.heap.size := by rw [hw13.out]; simp only [World.size_alloc]; omega
          try simp only [World.size_alloc] at q13
          rw [← hw13.out] at Ho E ⊢
          rw [← hw13.out] at Ha
          rw [← hw13.out] at Hl
          refine hK.out _ _ ?_ (fun hHeld => ?_)
          · exact ⟨(B0.ext E).cell0 rfl, (B0.ext E).cell0 rfl, (B1.ext E).cell0 rfl, (B1.ext E).cell0 rfl, (B1.ext E).cell0 rfl⟩
          clear hK K'
          try simp only [Act.put, List.getElem_toArray, List.getElem_cons_zero, List.getElem_cons_succ, List.setIfInBounds_toArray, List.set_cons_zero, List.set_cons_succ]
          refine wpAnyH_ready (rs := [5]) (by kernel_rfl) (by simp) ?_
          refine AllReadyH.cons rfl (fun K' hK => ?_) AllReadyH.nil
          refine if_yes (by rfl) ?_
          try simp only [Act.put, List.getElem_toArray, List.getElem_cons_zero, List.getElem_cons_succ, List.setIfInBounds_toArray, List.set_cons_zero, List.set_cons_succ]
          refine wp_app _ (.tmp 9) (.tmp 11) 23 rfl W.heap.size 0 78 i0 _ 3 24 Try.underlying23 Hi.out Hz0.out Hz1.out Hz2.out rfl (by decide) (.slice (some ⟨D.heap.size, 0, none⟩) 0 0) (0) _ rfl Ha (.slice a p.bs.length cap) p.bs.length (bcells p.bs) rfl (Hv.out.ext (ext_trans HB E)) (bcells_one _) ?_ ?_ ?_ ?_
          · unfold maxLen; omega
          · omega
          · first | omega | (simp only [World.size_alloc, World.size_drew]; omega)
          intro v14 w14 hown hgrow
          try simp only [Nat.zero_add, List.nil_append] at hown
          have Ho := Ho.grown hgrow (own_not_box Ha Ho)
          have Hl := own_far Hl hgrow (fun k hk e => by simp [Value.ownBlock] at hk e; omega)
          have E := ext_grown E hgrow (fun k hk => (own_lt Ha k hk).1)
          have q14 := hgrow.size
          try simp only [World.size_alloc] at q14
          obtain ⟨a14, c14, rfl, -⟩ := own_open hown
          have Ha := hown
          clear hown hgrow
          refine hK.out _ _ ?_ (fun hHeld => ?_)
          · exact ⟨(B0.ext E).cell0 rfl, (B0.ext E).cell0 rfl, (B1.ext E).cell0 rfl, (B1.ext E).cell0 rfl, (B1.ext E).cell0 rfl⟩
          clear hK K'
          try simp only [Act.put, List.getElem_toArray, List.getElem_cons_zero, List.getElem_cons_succ, List.setIfInBounds_toArray, List.set_cons_zero, List.set_cons_succ]
          refine wpAnyH_ready (rs := [8]) (by kernel_rfl) (by simp) ?_
          refine AllReadyH.cons rfl (fun K' hK => ?_) AllReadyH.nil
          refine if_yes (by rfl) ?_
          try simp only [Act.put, List.getElem_toArray, List.getElem_cons_zero, List.getElem_cons_succ, List.setIfInBounds_toArray, List.set_cons_zero, List.set_cons_succ]
          refine wp_app _ (.tmp 12) (.tmp 14) 23 rfl W.heap.size 0 78 i0 _ 3 24 Try.underlying23 Hi.out Hz0.out Hz1.out Hz2.out rfl (by decide) (.slice a14 (p.bs.length) c14) (p.bs.length) _ rfl Ha (.slice (some ⟨D.heap.size + 1, 0, none⟩) 1 1) 1 (bcells [b]) rfl (Hl) (bcells_one _) ?_ ?_ ?_ ?_
          · unfold maxLen; omega
          · omega
          · first | omega | (simp only [World.size_alloc, World.size_drew]; omega)
          intro v15 w15 hown hgrow
          try simp only [Nat.zero_add, List.nil_append] at hown
          have Ho := Ho.grown hgrow (own_not_box Ha Ho)
          have E := ext_grown E hgrow (fun k hk => (own_lt Ha k hk).1)
          have q15 := hgrow.size
          try simp only [World.size_alloc] at q15
          obtain ⟨a15, c15, rfl, -⟩ := own_open hown
          have Ha := hown
          clear hown hgrow
          refine hK.out _ _ ?_ (fun hHeld => ?_)
          · exact ⟨(B0.ext E).cell0 rfl, (B0.ext E).cell0 rfl, (B1.ext E).cell0 rfl, (B1.ext E).cell0 rfl, (B1.ext E).cell0 rfl⟩
          clear hK K'
          try simp only [Act.put, List.getElem_toArray, List.getElem_cons_zero, List.getElem_cons_succ, List.setIfInBounds_toArray, List.set_cons_zero, List.set_cons_succ]
          refine wpAnyH_take (i := 9) (v := ?_) rfl (by kernel_rfl) (by kernel_rfl) (by kernel_rfl) (fun _ _ _ h => h) (Or.inl ⟨by rfl, fun w' hS' => ?_⟩) (by assumption) ?_
          rotate_left
          · (try dsimp only at hS'); go_simp; (try rw [if_pos (by omega)]); try with_reducible rfl
          try simp only [Act.put, List.getElem_toArray, List.getElem_cons_zero, List.getElem_cons_succ, List.setIfInBounds_toArray, List.set_cons_zero, List.set_cons_succ]
          obtain ⟨rco, rzo⟩ := (Ho).rules; have rlo := (Ho).lt
          refine wpAnyH_done (by kernel_rfl) ?_ _
          refine tail_step rfl (fun K' hK => ?_)
          refine if_yes (by rfl) ?_
          try simp only [Act.put, List.getElem_toArray, List.getElem_cons_zero, List.getElem_cons_succ, List.setIfInBounds_toArray, List.set_cons_zero, List.set_cons_succ]
          go_simp
          refine hK _ _ ?_
          clear hK K'
          try simp only [Act.put, List.getElem_toArray, List.getElem_cons_zero, List.getElem_cons_succ, List.setIfInBounds_toArray, List.set_cons_zero, List.set_cons_succ]
          go_wp2_with fail
          go_meet
          exact out_done (p := ⟨p.pts, p.bs ++ [b]⟩) Ho (by simp only [bcells_append]; exact Ha) (by omega) E
      · refine if_yes (by rfl) ?_
        try simp only [Act.put, List.getElem_toArray, List.getElem_cons_zero, List.getElem_cons_succ, List.setIfInBounds_toArray, List.set_cons_zero, List.set_cons_succ]
        go_simp
        have Ha := World.ownsRow.alloc Ha (.cells #[.int .i64 0, .slice none 0 0] 25)
        have E := ext_alloc E (.cells #[.int .i64 0, .slice none 0 0] 25)
        have Ho := Box.new ((D).alloc (.cells #[] 78)) 25 #[.int .i64 0, .slice none 0 0]
        try simp only [World.size_alloc] at Ho
        obtain ⟨w16, hw16⟩ : ∃ w16, Hid (w16 = ((D).alloc (.cells #[] 78)).alloc (.cells #[.int .i64 0, .slice none 0 0] 25)) := ⟨_, rfl⟩
        have q16 : ((D).alloc (.cells #[] 78)).heap.size < w16.heap.size := by rw [hw16.out]; simp only [World.size_alloc]; omega
        try simp only [World.size_alloc] at q16
        rw [← hw16.out] at Ho E ⊢
        rw [← hw16.out] at Ha
        refine hK.out _ _ ?_ (fun hHeld => ?_)
        · exact ⟨(B0.ext E).cell0 rfl, (B0.ext E).cell0 rfl, (B1.ext E).cell0 rfl, (B1.ext E).cell0 rfl, (B1.ext E).cell0 rfl⟩
        clear hK K'
        try simp only [Act.put, List.getElem_toArray, List.getElem_cons_zero, List.getElem_cons_succ, List.setIfInBounds_toArray, List.set_cons_zero, List.set_cons_succ]
        refine wpAnyH_ready (rs := [5, 7]) (by kernel_rfl) (by simp) ?_
        refine AllReadyH.cons rfl (fun K' hK => ?_) (AllReadyH.cons rfl (fun K' hK => ?_) AllReadyH.nil)
        · refine if_yes (by rfl) ?_
          try simp only [Act.put, List.getElem_toArray, List.getElem_cons_zero, List.getElem_cons_succ, List.setIfInBounds_toArray, List.set_cons_zero, List.set_cons_succ]
          refine wp_app _ (.tmp 9) (.tmp 11) 23 rfl W.heap.size 0 78 i0 _ 3 24 Try.underlying23 Hi.out Hz0.out Hz1.out Hz2.out rfl (by decide) (.slice (some ⟨D.heap.size, 0, none⟩) 0 0) (0) _ rfl Ha (.slice a p.bs.length cap) p.bs.length (bcells p.bs) rfl (Hv.out.ext (ext_trans HB E)) (bcells_one _) ?_ ?_ ?_ ?_
          · unfold maxLen; omega
          · omega
          · first | omega | (simp only [World.size_alloc, World.size_drew]; omega)
          intro v17 w17 hown hgrow
          try simp only [Nat.zero_add, List.nil_append] at hown
          have Ho := Ho.grown hgrow (own_not_box Ha Ho)
          have E := ext_grown E hgrow (fun k hk => (own_lt Ha k hk).1)
          have q17 := hgrow.size
          try simp only [World.size_alloc] at q17
          obtain ⟨a17, c17, rfl, -⟩ := own_open hown
          have Ha := hown
          clear hown hgrow
          refine hK.out _ _ ?_ (fun hHeld => ?_)
          · exact ⟨(B0.ext E).cell0 rfl, (B0.ext E).cell0 rfl, (B1.ext E).cell0 rfl, (B1.ext E).cell0 rfl, (B1.ext E).cell0 rfl⟩
          clear hK K'
          try simp only [Act.put, List.getElem_toArray, List.getElem_cons_zero, List.getElem_cons_succ, List.setIfInBounds_toArray, List.set_cons_zero, List.set_cons_succ]
          refine wpAnyH_ready (rs := [7]) (by kernel_rfl) (by simp) ?_
          refine AllReadyH.cons rfl (fun K' hK => ?_) AllReadyH.nil
          refine if_yes (by rfl) ?_
          try simp only [Act.put, List.getElem_toArray, List.getElem_cons_zero, List.getElem_cons_succ, List.setIfInBounds_toArray, List.set_cons_zero, List.set_cons_succ]
          go_simp
          have Ha := World.ownsRow.alloc Ha (.cells #[.int .i64 b.f, .int .i64 b.t, .int .i64 b.m] 78)
          have Ho := Ho.alloc (.cells #[.int .i64 b.f, .int .i64 b.t, .int .i64 b.m] 78)
          have E := ext_alloc E (.cells #[.int .i64 b.f, .int .i64 b.t, .int .i64 b.m] 78)
          have Hl := World.ownsRow_lit (base := 0) (e := 78) (size := 3) (w17) #[.int .i64 b.f, .int .i64 b.t, .int .i64 b.m] 1 (Nat.zero_le _) (by decide) rfl
          try simp only [World.size_alloc] at Hl
          refine hK.out _ _ ?_ (fun hHeld => ?_)
          · exact ⟨(B0.ext E).cell0 rfl, (B0.ext E).cell0 rfl, (B1.ext E).cell0 rfl, (B1.ext E).cell0 rfl, (B1.ext E).cell0 rfl⟩
          clear hK K'
          try simp only [Act.put, List.getElem_toArray, List.getElem_cons_zero, List.getElem_cons_succ, List.setIfInBounds_toArray, List.set_cons_zero, List.set_cons_succ]
          refine wpAnyH_ready (rs := [8]) (by kernel_rfl) (by simp) ?_
          refine AllReadyH.cons rfl (fun K' hK => ?_) AllReadyH.nil
          refine if_yes (by rfl) ?_
          try simp only [Act.put, List.getElem_toArray, List.getElem_cons_zero, List.getElem_cons_succ, List.setIfInBounds_toArray, List.set_cons_zero, List.set_cons_succ]
          refine wp_app _ (.tmp 12) (.tmp 14) 23 rfl W.heap.size 0 78 i0 _ 3 24 Try.underlying23 Hi.out Hz0.out Hz1.out Hz2.out rfl (by decide) (.slice a17 (p.bs.length) c17) (p.bs.length) _ rfl Ha (.slice (some ⟨w17.heap.size, 0, none⟩) 1 1) 1 (bcells [b]) rfl (Hl) (bcells_one _) ?_ ?_ ?_ ?_
          · unfold maxLen; omega
          · omega
          · first | omega | (simp only [World.size_alloc, World.size_drew]; omega)
          intro v18 w18 hown hgrow
          try simp only [Nat.zero_add, List.nil_append] at hown
          have Ho := Ho.grown hgrow (own_not_box Ha Ho)
          have E := ext_grown E hgrow (fun k hk => (own_lt Ha k hk).1)
          have q18 := hgrow.size
          try simp only [World.size_alloc] at q18
          obtain ⟨a18, c18, rfl, -⟩ := own_open hown
          have Ha := hown
          clear hown hgrow
          refine hK.out _ _ ?_ (fun hHeld => ?_)
          · exact ⟨(B0.ext E).cell0 rfl, (B0.ext E).cell0 rfl, (B1.ext E).cell0 rfl, (B1.ext E).cell0 rfl, (B1.ext E).cell0 rfl⟩
          clear hK K'
          try simp only [Act.put, List.getElem_toArray, List.getElem_cons_zero, List.getElem_cons_succ, List.setIfInBounds_toArray, List.set_cons_zero, List.set_cons_succ]
          refine wpAnyH_take (i := 9) (v := ?_) rfl (by kernel_rfl) (by kernel_rfl) (by kernel_rfl) (fun _ _ _ h => h) (Or.inl ⟨by rfl, fun w' hS' => ?_⟩) (by assumption) ?_
          rotate_left
          · (try dsimp only at hS'); go_simp; (try rw [if_pos (by omega)]); try with_reducible rfl
          try simp only [Act.put, List.getElem_toArray, List.getElem_cons_zero, List.getElem_cons_succ, List.setIfInBounds_toArray, List.set_cons_zero, List.set_cons_succ]
          obtain ⟨rco, rzo⟩ := (Ho).rules; have rlo := (Ho).lt
          refine wpAnyH_done (by kernel_rfl) ?_ _
          refine tail_step rfl (fun K' hK => ?_)
          refine if_yes (by rfl) ?_
          try simp only [Act.put, List.getElem_toArray, List.getElem_cons_zero, List.getElem_cons_succ, List.setIfInBounds_toArray, List.set_cons_zero, List.set_cons_succ]
          go_simp
          refine hK _ _ ?_
          clear hK K'
          try simp only [Act.put, List.getElem_toArray, List.getElem_cons_zero, List.getElem_cons_succ, List.setIfInBounds_toArray, List.set_cons_zero, List.set_cons_succ]
          go_wp2_with fail
          go_meet
          exact out_done (p := ⟨p.pts, p.bs ++ [b]⟩) Ho (by simp only [bcells_append]; exact Ha) (by omega) E
        · refine if_yes (by rfl) ?_
          try simp only [Act.put, List.getElem_toArray, List.getElem_cons_zero, List.getElem_cons_succ, List.setIfInBounds_toArray, List.set_cons_zero, List.set_cons_succ]
          go_simp
          have Ha := World.ownsRow.alloc Ha (.cells #[.int .i64 b.f, .int .i64 b.t, .int .i64 b.m] 78)
          have Ho := Ho.alloc (.cells #[.int .i64 b.f, .int .i64 b.t, .int .i64 b.m] 78)
          have E := ext_alloc E (.cells #[.int .i64 b.f, .int .i64 b.t, .int .i64 b.m] 78)
          have Hl := World.ownsRow_lit (base := 0) (e := 78) (size := 3) (w16) #[.int .i64 b.f, .int .i64 b.t, .int .i64 b.m] 1 (Nat.zero_le _) (by decide) rfl
          try simp only [World.size_alloc] at Hl
          refine hK.out _ _ ?_ (fun hHeld => ?_)
          · exact ⟨(B0.ext E).cell0 rfl, (B0.ext E).cell0 rfl, (B1.ext E).cell0 rfl, (B1.ext E).cell0 rfl, (B1.ext E).cell0 rfl⟩
          clear hK K'
          try simp only [Act.put, List.getElem_toArray, List.getElem_cons_zero, List.getElem_cons_succ, List.setIfInBounds_toArray, List.set_cons_zero, List.set_cons_succ]
          refine wpAnyH_ready (rs := [5]) (by kernel_rfl) (by simp) ?_
          refine AllReadyH.cons rfl (fun K' hK => ?_) AllReadyH.nil
          refine if_yes (by rfl) ?_
          try simp only [Act.put, List.getElem_toArray, List.getElem_cons_zero, List.getElem_cons_succ, List.setIfInBounds_toArray, List.set_cons_zero, List.set_cons_succ]
          refine wp_app _ (.tmp 9) (.tmp 11) 23 rfl W.heap.size 0 78 i0 _ 3 24 Try.underlying23 Hi.out Hz0.out Hz1.out Hz2.out rfl (by decide) (.slice (some ⟨D.heap.size, 0, none⟩) 0 0) (0) _ rfl Ha (.slice a p.bs.length cap) p.bs.length (bcells p.bs) rfl (Hv.out.ext (ext_trans HB E)) (bcells_one _) ?_ ?_ ?_ ?_
          · unfold maxLen; omega
          · omega
          · first | omega | (simp only [World.size_alloc, World.size_drew]; omega)
          intro v19 w19 hown hgrow
          try simp only [Nat.zero_add, List.nil_append] at hown
          have Ho := Ho.grown hgrow (own_not_box Ha Ho)
          have Hl := own_far Hl hgrow (fun k hk e => by simp [Value.ownBlock] at hk e; omega)
          have E := ext_grown E hgrow (fun k hk => (own_lt Ha k hk).1)
          have q19 := hgrow.size
          try simp only [World.size_alloc] at q19
          obtain ⟨a19, c19, rfl, -⟩ := own_open hown
          have Ha := hown
          clear hown hgrow
          refine hK.out _ _ ?_ (fun hHeld => ?_)
          · exact ⟨(B0.ext E).cell0 rfl, (B0.ext E).cell0 rfl, (B1.ext E).cell0 rfl, (B1.ext E).cell0 rfl, (B1.ext E).cell0 rfl⟩
          clear hK K'
          try simp only [Act.put, List.getElem_toArray, List.getElem_cons_zero, List.getElem_cons_succ, List.setIfInBounds_toArray, List.set_cons_zero, List.set_cons_succ]
          refine wpAnyH_ready (rs := [8]) (by kernel_rfl) (by simp) ?_
          refine AllReadyH.cons rfl (fun K' hK => ?_) AllReadyH.nil
          refine if_yes (by rfl) ?_
          try simp only [Act.put, List.getElem_toArray, List.getElem_cons_zero, List.getElem_cons_succ, List.setIfInBounds_toArray, List.set_cons_zero, List.set_cons_succ]
          refine wp_app _ (.tmp 12) (.tmp 14) 23 rfl W.heap.size 0 78 i0 _ 3 24 Try.underlying23 Hi.out Hz0.out Hz1.out Hz2.out rfl (by decide) (.slice a19 (p.bs.length) c19) (p.bs.length) _ rfl Ha (.slice (some ⟨w16.heap.size, 0, none⟩) 1 1) 1 (bcells [b]) rfl (Hl) (bcells_one _) ?_ ?_ ?_ ?_
          · unfold maxLen; omega
          · omega
          · first | omega | (simp only [World.size_alloc, World.size_drew]; omega)
          intro v20 w20 hown hgrow
          try simp only [Nat.zero_add, List.nil_append] at hown
          have Ho := Ho.grown hgrow (own_not_box Ha Ho)
          have E := ext_grown E hgrow (fun k hk => (own_lt Ha k hk).1)
          have q20 := hgrow.size
          try simp only [World.size_alloc] at q20
          obtain ⟨a20, c20, rfl, -⟩ := own_open hown
          have Ha := hown
          clear hown hgrow
          refine hK.out _ _ ?_ (fun hHeld => ?_)
          · exact ⟨(B0.ext E).cell0 rfl, (B0.ext E).cell0 rfl, (B1.ext E).cell0 rfl, (B1.ext E).cell0 rfl, (B1.ext E).cell0 rfl⟩
          clear hK K'
          try simp only [Act.put, List.getElem_toArray, List.getElem_cons_zero, List.getElem_cons_succ, List.setIfInBounds_toArray, List.set_cons_zero, List.set_cons_succ]
          refine wpAnyH_take (i := 9) (v := ?_) rfl (by kernel_rfl) (by kernel_rfl) (by kernel_rfl) (fun _ _ _ h => h) (Or.inl ⟨by rfl, fun w' hS' => ?_⟩) (by assumption) ?_
          rotate_left
          · (try dsimp only at hS'); go_simp; (try rw [if_pos (by omega)]); try with_reducible rfl
          try simp only [Act.put, List.getElem_toArray, List.getElem_cons_zero, List.getElem_cons_succ, List.setIfInBounds_toArray, List.set_cons_zero, List.set_cons_succ]
          obtain ⟨rco, rzo⟩ := (Ho).rules; have rlo := (Ho).lt
          refine wpAnyH_done (by kernel_rfl) ?_ _
          refine tail_step rfl (fun K' hK => ?_)
          refine if_yes (by rfl) ?_
          try simp only [Act.put, List.getElem_toArray, List.getElem_cons_zero, List.getElem_cons_succ, List.setIfInBounds_toArray, List.set_cons_zero, List.set_cons_succ]
          go_simp
          refine hK _ _ ?_
          clear hK K'
          try simp only [Act.put, List.getElem_toArray, List.getElem_cons_zero, List.getElem_cons_succ, List.setIfInBounds_toArray, List.set_cons_zero, List.set_cons_succ]
          go_wp2_with fail
          go_meet
          exact out_done (p := ⟨p.pts, p.bs ++ [b]⟩) Ho (by simp only [bcells_append]; exact Ha) (by omega) E
    · refine if_yes (by rfl) ?_
      try simp only [Act.put, List.getElem_toArray, List.getElem_cons_zero, List.getElem_cons_succ, List.setIfInBounds_toArray, List.set_cons_zero, List.set_cons_succ]
      go_simp
      have E := ext_alloc E (.cells #[.int .i64 b.f, .int .i64 b.t, .int .i64 b.m] 78)
      have Hl := World.ownsRow_lit (base := 0) (e := 78) (size := 3) (D) #[.int .i64 b.f, .int .i64 b.t, .int .i64 b.m] 1 (Nat.zero_le _) (by decide) rfl
      try simp only [World.size_alloc] at Hl
      refine hK.out _ _ ?_ (fun hHeld => ?_)
      · exact ⟨(B0.ext E).cell0 rfl, (B0.ext E).cell0 rfl, (B1.ext E).cell0 rfl, (B1.ext E).cell0 rfl, (B1.ext E).cell0 rfl⟩
      clear hK K'
      try simp only [Act.put, List.getElem_toArray, List.getElem_cons_zero, List.getElem_cons_succ, List.setIfInBounds_toArray, List.set_cons_zero, List.set_cons_succ]
      refine wpAnyH_ready (rs := [2, 10]) (by kernel_rfl) (by simp) ?_
      refine AllReadyH.cons rfl (fun K' hK => ?_) (AllReadyH.cons rfl (fun K' hK => ?_) AllReadyH.nil)
      · refine if_yes (by rfl) ?_
        try simp only [Act.put, List.getElem_toArray, List.getElem_cons_zero, List.getElem_cons_succ, List.setIfInBounds_toArray, List.set_cons_zero, List.set_cons_succ]
        go_simp
        have Hl := World.ownsRow.alloc Hl (.cells #[] 78)
        have E := ext_alloc E (.cells #[] 78)
        have Ha := World.ownsRow_lit (base := W.heap.size) (e := 78) (size := 3) ((D).alloc (.cells #[.int .i64 b.f, .int .i64 b.t, .int .i64 b.m] 78)) #[] 0 (by first | exact Nat.le_refl _ | (simp only [World.size_alloc]; omega) | omega) (by decide) rfl
        try simp only [World.size_alloc] at Ha
        refine hK.out _ _ ?_ (fun hHeld => ?_)
        · exact ⟨(B0.ext E).cell0 rfl, (B0.ext E).cell0 rfl, (B1.ext E).cell0 rfl, (B1.ext E).cell0 rfl, (B1.ext E).cell0 rfl⟩
        clear hK K'
        try simp only [Act.put, List.getElem_toArray, List.getElem_cons_zero, List.getElem_cons_succ, List.setIfInBounds_toArray, List.set_cons_zero, List.set_cons_succ]
        refine wpAnyH_ready (rs := [5, 10]) (by kernel_rfl) (by simp) ?_
        refine AllReadyH.cons rfl (fun K' hK => ?_) (AllReadyH.cons rfl (fun K' hK => ?_) AllReadyH.nil)
        · refine if_yes (by rfl) ?_
          try simp only [Act.put, List.getElem_toArray, List.getElem_cons_zero, List.getElem_cons_succ, List.setIfInBounds_toArray, List.set_cons_zero, List.set_cons_succ]
          refine wp_app _ (.tmp 9) (.tmp 11) 23 rfl W.heap.size 0 78 i0 _ 3 24 Try.underlying23 Hi.out Hz0.out Hz1.out Hz2.out rfl (by decide) (.slice (some ⟨D.heap.size + 1, 0, none⟩) 0 0) (0) _ rfl Ha (.slice a p.bs.length cap) p.bs.length (bcells p.bs) rfl (Hv.out.ext (ext_trans HB E)) (bcells_one _) ?_ ?_ ?_ ?_
          · unfold maxLen; omega
          · omega
          · first | omega | (simp only [World.size_alloc, World.size_drew]; omega)
          intro v21 w21 hown hgrow
          try simp only [Nat.zero_add, List.nil_append] at hown
          have Hl := own_far Hl hgrow (fun k hk e => by simp [Value.ownBlock] at hk e; omega)
          have E := ext_grown E hgrow (fun k hk => (own_lt Ha k hk).1)
          have q21 := hgrow.size
          try simp only [World.size_alloc] at q21
          obtain ⟨a21, c21, rfl, -⟩ := own_open hown
          have Ha := hown
          clear hown hgrow
          refine hK.out _ _ ?_ (fun hHeld => ?_)
          · exact ⟨(B0.ext E).cell0 rfl, (B0.ext E).cell0 rfl, (B1.ext E).cell0 rfl, (B1.ext E).cell0 rfl, (B1.ext E).cell0 rfl⟩
          clear hK K'
          try simp only [Act.put, List.getElem_toArray, List.getElem_cons_zero, List.getElem_cons_succ, List.setIfInBounds_toArray, List.set_cons_zero, List.set_cons_succ]
          refine wpAnyH_ready (rs := [8, 10]) (by kernel_rfl) (by simp) ?_
          refine AllReadyH.cons rfl (fun K' hK => ?_) (AllReadyH.cons rfl (fun K' hK => ?_) AllReadyH.nil)
          · refine if_yes (by rfl) ?_
            try simp only [Act.put, List.getElem_toArray, List.getElem_cons_zero, List.getElem_cons_succ, List.setIfInBounds_toArray, List.set_cons_zero, List.set_cons_succ]
            refine wp_app _ (.tmp 12) (.tmp 14) 23 rfl W.heap.size 0 78 i0 _ 3 24 Try.underlying23 Hi.out Hz0.out Hz1.out Hz2.out rfl (by decide) (.slice a21 (p.bs.length) c21) (p.bs.length) _ rfl Ha (.slice (some ⟨D.heap.size, 0, none⟩) 1 1) 1 (bcells [b]) rfl (Hl) (bcells_one _) ?_ ?_ ?_ ?_
            · unfold maxLen; omega
            · omega
            · first | omega | (simp only [World.size_alloc, World.size_drew]; omega)
            intro v22 w22 hown hgrow
            try simp only [Nat.zero_add, List.nil_append] at hown
            have E := ext_grown E hgrow (fun k hk => (own_lt Ha k hk).1)
            have q22 := hgrow.size
            try simp only [World.size_alloc] at q22
            obtain ⟨a22, c22, rfl, -⟩ := own_open hown
            have Ha := hown
            clear hown hgrow
            refine hK.out _ _ ?_ (fun hHeld => ?_)
            · exact ⟨(B0.ext E).cell0 rfl, (B0.ext E).cell0 rfl, (B1.ext E).cell0 rfl, (B1.ext E).cell0 rfl, (B1.ext E).cell0 rfl⟩
            clear hK K'
            try simp only [Act.put, List.getElem_toArray, List.getElem_cons_zero, List.getElem_cons_succ, List.setIfInBounds_toArray, List.set_cons_zero, List.set_cons_succ]
            refine wpAnyH_take (i := 9) (v := ?_) rfl (by kernel_rfl) (by kernel_rfl) (by kernel_rfl) (fun _ _ _ h => h) (Or.inl ⟨by rfl, fun w' hS' => ?_⟩) (by assumption) ?_
            rotate_left
            · (try dsimp only at hS'); go_simp; (try rw [if_pos (by omega)]); try with_reducible rfl
            try simp only [Act.put, List.getElem_toArray, List.getElem_cons_zero, List.getElem_cons_succ, List.setIfInBounds_toArray, List.set_cons_zero, List.set_cons_succ]
            refine wpAnyH_ready (rs := [10]) (by kernel_rfl) (by simp) ?_
            refine AllReadyH.cons rfl (fun K' hK => ?_) AllReadyH.nil
            refine if_yes (by rfl) ?_
            try simp only [Act.put, List.getElem_toArray, List.getElem_cons_zero, List.getElem_cons_succ, List.setIfInBounds_toArray, List.set_cons_zero, List.set_cons_succ]
            go_simp
            have Ha := World.ownsRow.alloc Ha (.cells #[.int .i64 0, .slice none 0 0] 25)
            have E := ext_alloc E (.cells #[.int .i64 0, .slice none 0 0] 25)
            have Ho := Box.new (w22) 25 #[.int .i64 0, .slice none 0 0]
            try simp only [World.size_alloc] at Ho
            obtain ⟨w23, hw23⟩ : ∃ w23, Hid (w23 = (w22).alloc (.cells #[.int .i64 0, .slice none 0 0] 25)) := ⟨_, rfl⟩
            have q23 : (w22).heap.size < w23.heap.size := by rw [hw23.out]; simp only [World.size_alloc]; omega
            try simp only [World.size_alloc] at q23
            rw [← hw23.out] at Ho E ⊢
            rw [← hw23.out] at Ha
            refine hK.out _ _ ?_ (fun hHeld => ?_)
            · exact ⟨(B0.ext E).cell0 rfl, (B0.ext E).cell0 rfl, (B1.ext E).cell0 rfl, (B1.ext E).cell0 rfl, (B1.ext E).cell0 rfl⟩
            clear hK K'
            try simp only [Act.put, List.getElem_toArray, List.getElem_cons_zero, List.getElem_cons_succ, List.setIfInBounds_toArray, List.set_cons_zero, List.set_cons_succ]
            obtain ⟨rco, rzo⟩ := (Ho).rules; have rlo := (Ho).lt
            refine wpAnyH_done (by kernel_rfl) ?_ _
            refine tail_step rfl (fun K' hK => ?_)
            refine if_yes (by rfl) ?_
            try simp only [Act.put, List.getElem_toArray, List.getElem_cons_zero, List.getElem_cons_succ, List.setIfInBounds_toArray, List.set_cons_zero, List.set_cons_succ]
            go_simp
            refine hK _ _ ?_
            clear hK K'
            try simp only [Act.put, List.getElem_toArray, List.getElem_cons_zero, List.getElem_cons_succ, List.setIfInBounds_toArray, List.set_cons_zero, List.set_cons_succ]
            go_wp2_with fail
            go_meet
            exact out_done (p := ⟨p.pts, p.bs ++ [b]⟩) Ho (by simp only [bcells_append]; exact Ha) (by omega) E
          · refine if_yes (by rfl) ?_
            try simp only [Act.put, List.getElem_toArray, List.getElem_cons_zero, List.getElem_cons_succ, List.setIfInBounds_toArray, List.set_cons_zero, List.set_cons_succ]
            go_simp
            have Ha := World.ownsRow.alloc Ha (.cells #[.int .i64 0, .slice none 0 0] 25)
            have Hl := World.ownsRow.alloc Hl (.cells #[.int .i64 0, .slice none 0 0] 25)
            have E := ext_alloc E (.cells #[.int .i64 0, .slice none 0 0] 25)
            have Ho := Box.new (w21) 25 #[.int .i64 0, .slice none 0 0]
            try simp only [World.size_alloc] at Ho
            obtain ⟨w24, hw24⟩ : ∃ w24, Hid (w24 = (w21).alloc (.cells #[.int .i64 0, .slice none 0 0] 25)) := ⟨_, rfl⟩
            have q24 : (w21).heap.size < w24.heap.size := by rw [hw24.out]; simp only [World.size_alloc]; omega
            try simp only [World.size_alloc] at q24
            rw [← hw24.out] at Ho E ⊢
            rw [← hw24.out] at Ha
            rw [← hw24.out] at Hl
            refine hK.out _ _ ?_ (fun hHeld => ?_)
            · exact ⟨(B0.ext E).cell0 rfl, (B0.ext E).cell0 rfl, (B1.ext E).cell0 rfl, (B1.ext E).cell0 rfl, (B1.ext E).cell0 rfl⟩
            clear hK K'
            try simp only [Act.put, List.getElem_toArray, List.getElem_cons_zero, List.getElem_cons_succ, List.setIfInBounds_toArray, List.set_cons_zero, List.set_cons_succ]
            refine wpAnyH_ready (rs := [8]) (by kernel_rfl) (by simp) ?_
            refine AllReadyH.cons rfl (fun K' hK => ?_) AllReadyH.nil
            refine if_yes (by rfl) ?_
            try simp only [Act.put, List.getElem_toArray, List.getElem_cons_zero, List.getElem_cons_succ, List.setIfInBounds_toArray, List.set_cons_zero, List.set_cons_succ]
            refine wp_app _ (.tmp 12) (.tmp 14) 23 rfl W.heap.size 0 78 i0 _ 3 24 Try.underlying23 Hi.out Hz0.out Hz1.out Hz2.out rfl (by decide) (.slice a21 (p.bs.length) c21) (p.bs.length) _ rfl Ha (.slice (some ⟨D.heap.size, 0, none⟩) 1 1) 1 (bcells [b]) rfl (Hl) (bcells_one _) ?_ ?_ ?_ ?_
            · unfold maxLen; omega
            · omega
            · first | omega | (simp only [World.size_alloc, World.size_drew]; omega)
            intro v25 w25 hown hgrow
            try simp only [Nat.zero_add, List.nil_append] at hown
            have Ho := Ho.grown hgrow (own_not_box Ha Ho)
            have E := ext_grown E hgrow (fun k hk => (own_lt Ha k hk).1)
            have q25 := hgrow.size
            try simp only [World.size_alloc] at q25
            obtain ⟨a25, c25, rfl, -⟩ := own_open hown
            have Ha := hown
            clear hown hgrow
            refine hK.out _ _ ?_ (fun hHeld => ?_)
            · exact ⟨(B0.ext E).cell0 rfl, (B0.ext E).cell0 rfl, (B1.ext E).cell0 rfl, (B1.ext E).cell0 rfl, (B1.ext E).cell0 rfl⟩
            clear hK K'
            try simp only [Act.put, List.getElem_toArray, List.getElem_cons_zero, List.getElem_cons_succ, List.setIfInBounds_toArray, List.set_cons_zero, List.set_cons_succ]
            refine wpAnyH_take (i := 9) (v := ?_) rfl (by kernel_rfl) (by kernel_rfl) (by kernel_rfl) (fun _ _ _ h => h) (Or.inl ⟨by rfl, fun w' hS' => ?_⟩) (by assumption) ?_
            rotate_left
            · (try dsimp only at hS'); go_simp; (try rw [if_pos (by omega)]); try with_reducible rfl
            try simp only [Act.put, List.getElem_toArray, List.getElem_cons_zero, List.getElem_cons_succ, List.setIfInBounds_toArray, List.set_cons_zero, List.set_cons_succ]
            obtain ⟨rco, rzo⟩ := (Ho).rules; have rlo := (Ho).lt
            refine wpAnyH_done (by kernel_rfl) ?_ _
            refine tail_step rfl (fun K' hK => ?_)
            refine if_yes (by rfl) ?_
            try simp only [Act.put, List.getElem_toArray, List.getElem_cons_zero, List.getElem_cons_succ, List.setIfInBounds_toArray, List.set_cons_zero, List.set_cons_succ]
            go_simp
            refine hK _ _ ?_
            clear hK K'
            try simp only [Act.put, List.getElem_toArray, List.getElem_cons_zero, List.getElem_cons_succ, List.setIfInBounds_toArray, List.set_cons_zero, List.set_cons_succ]
            go_wp2_with fail
            go_meet
            exact out_done (p := ⟨p.pts, p.bs ++ [b]⟩) Ho (by simp only [bcells_append]; exact Ha) (by omega) E
        · refine if_yes (by rfl) ?_
          try simp only [Act.put, List.getElem_toArray, List.getElem_cons_zero, List.getElem_cons_succ, List.setIfInBounds_toArray, List.set_cons_zero, List.set_cons_succ]
          go_simp
          have Ha := World.ownsRow.alloc Ha (.cells #[.int .i64 0, .slice none 0 0] 25)
          have Hl := World.ownsRow.alloc Hl (.cells #[.int .i64 0, .slice none 0 0] 25)
          have E := ext_alloc E (.cells #[.int .i64 0, .slice none 0 0] 25)
          have Ho := Box.new (((D).alloc (.cells #[.int .i64 b.f, .int .i64 b.t, .int .i64 b.m] 78)).alloc (.cells #[] 78)) 25 #[.int .i64 0, .slice none 0 0]
          try simp only [World.size_alloc] at Ho
          obtain ⟨w26, hw26⟩ : ∃ w26, Hid (w26 = (((D).alloc (.cells #[.int .i64 b.f, .int .i64 b.t, .int .i64 b.m] 78)).alloc (.cells #[] 78)).alloc (.cells #[.int .i64 0, .slice none 0 0] 25)) := ⟨_, rfl⟩
          have q26 : (((D).alloc (.cells #[.int .i64 b.f, .int .i64 b.t, .int .i64 b.m] 78)).alloc (.cells #[] 78)).heap.size < w26.heap.size := by rw [hw26.out]; simp only [World.size_alloc]; omega
          try simp only [World.size_alloc] at q26
          rw [← hw26.out] at Ho E ⊢
          rw [← hw26.out] at Ha
          rw [← hw26.out] at Hl
          refine hK.out _ _ ?_ (fun hHeld => ?_)
          · exact ⟨(B0.ext E).cell0 rfl, (B0.ext E).cell0 rfl, (B1.ext E).cell0 rfl, (B1.ext E).cell0 rfl, (B1.ext E).cell0 rfl⟩
          clear hK K'
          try simp only [Act.put, List.getElem_toArray, List.getElem_cons_zero, List.getElem_cons_succ, List.setIfInBounds_toArray, List.set_cons_zero, List.set_cons_succ]
          refine wpAnyH_ready (rs := [5]) (by kernel_rfl) (by simp) ?_
          refine AllReadyH.cons rfl (fun K' hK => ?_) AllReadyH.nil
          refine if_yes (by rfl) ?_
          try simp only [Act.put, List.getElem_toArray, List.getElem_cons_zero, List.getElem_cons_succ, List.setIfInBounds_toArray, List.set_cons_zero, List.set_cons_succ]
          refine wp_app _ (.tmp 9) (.tmp 11) 23 rfl W.heap.size 0 78 i0 _ 3 24 Try.underlying23 Hi.out Hz0.out Hz1.out Hz2.out rfl (by decide) (.slice (some ⟨D.heap.size + 1, 0, none⟩) 0 0) (0) _ rfl Ha (.slice a p.bs.length cap) p.bs.length (bcells p.bs) rfl (Hv.out.ext (ext_trans HB E)) (bcells_one _) ?_ ?_ ?_ ?_
          · unfold maxLen; omega
          · omega
          · first | omega | (simp only [World.size_alloc, World.size_drew]; omega)
          intro v27 w27 hown hgrow
          try simp only [Nat.zero_add, List.nil_append] at hown
          have Ho := Ho.grown hgrow (own_not_box Ha Ho)
          have Hl := own_far Hl hgrow (fun k hk e => by simp [Value.ownBlock] at hk e; omega)
          have E := ext_grown E hgrow (fun k hk => (own_lt Ha k hk).1)
          have q27 := hgrow.size
          try simp only [World.size_alloc] at q27
          obtain ⟨a27, c27, rfl, -⟩ := own_open hown
          have Ha := hown
          clear hown hgrow
          refine hK.out _ _ ?_ (fun hHeld => ?_)
          · exact ⟨(B0.ext E).cell0 rfl, (B0.ext E).cell0 rfl, (B1.ext E).cell0 rfl, (B1.ext E).cell0 rfl, (B1.ext E).cell0 rfl⟩
          clear hK K'
          try simp only [Act.put, List.getElem_toArray, List.getElem_cons_zero, List.getElem_cons_succ, List.setIfInBounds_toArray, List.set_cons_zero, List.set_cons_succ]
          refine wpAnyH_ready (rs := [8]) (by kernel_rfl) (by simp) ?_
          refine AllReadyH.cons rfl (fun K' hK => ?_) AllReadyH.nil
          refine if_yes (by rfl) ?_
          try simp only [Act.put, List.getElem_toArray, List.getElem_cons_zero, List.getElem_cons_succ, List.setIfInBounds_toArray, List.set_cons_zero, List.set_cons_succ]
          refine wp_app _ (.tmp 12) (.tmp 14) 23 rfl W.heap.size 0 78 i0 _ 3 24 Try.underlying23 Hi.out Hz0.out Hz1.out Hz2.out rfl (by decide) (.slice a27 (p.bs.length) c27) (p.bs.length) _ rfl Ha (.slice (some ⟨D.heap.size, 0, none⟩) 1 1) 1 (bcells [b]) rfl (Hl) (bcells_one _) ?_ ?_ ?_ ?_
          · unfold maxLen; omega
          · omega
          · first | omega | (simp only [World.size_alloc, World.size_drew]; omega)
          intro v28 w28 hown hgrow
          try simp only [Nat.zero_add, List.nil_append] at hown
          have Ho := Ho.grown hgrow (own_not_box Ha Ho)
          have E := ext_grown E hgrow (fun k hk => (own_lt Ha k hk).1)
          have q28 := hgrow.size
          try simp only [World.size_alloc] at q28
          obtain ⟨a28, c28, rfl, -⟩ := own_open hown
          have Ha := hown
          clear hown hgrow
          refine hK.out _ _ ?_ (fun hHeld => ?_)
          · exact ⟨(B0.ext E).cell0 rfl, (B0.ext E).cell0 rfl, (B1.ext E).cell0 rfl, (B1.ext E).cell0 rfl, (B1.ext E).cell0 rfl⟩
          clear hK K'
          try simp only [Act.put, List.getElem_toArray, List.getElem_cons_zero, List.getElem_cons_succ, List.setIfInBounds_toArray, List.set_cons_zero, List.set_cons_succ]
          refine wpAnyH_take (i := 9) (v := ?_) rfl (by kernel_rfl) (by kernel_rfl) (by kernel_rfl) (fun _ _ _ h => h) (Or.inl ⟨by rfl, fun w' hS' => ?_⟩) (by assumption) ?_
          rotate_left
          · (try dsimp only at hS'); go_simp; (try rw [if_pos (by omega)]); try with_reducible rfl
          try simp only [Act.put, List.getElem_toArray, List.getElem_cons_zero, List.getElem_cons_succ, List.setIfInBounds_toArray, List.set_cons_zero, List.set_cons_succ]
          obtain ⟨rco, rzo⟩ := (Ho).rules; have rlo := (Ho).lt
          refine wpAnyH_done (by kernel_rfl) ?_ _
          refine tail_step rfl (fun K' hK => ?_)
          refine if_yes (by rfl) ?_
          try simp only [Act.put, List.getElem_toArray, List.getElem_cons_zero, List.getElem_cons_succ, List.setIfInBounds_toArray, List.set_cons_zero, List.set_cons_succ]
          go_simp
          refine hK _ _ ?_
          clear hK K'
          try simp only [Act.put, List.getElem_toArray, List.getElem_cons_zero, List.getElem_cons_succ, List.setIfInBounds_toArray, List.set_cons_zero, List.set_cons_succ]
          go_wp2_with fail
          go_meet
          exact out_done (p := ⟨p.pts, p.bs ++ [b]⟩) Ho (by simp only [bcells_append]; exact Ha) (by omega) E
      · refine if_yes (by rfl) ?_
        try simp only [Act.put, List.getElem_toArray, List.getElem_cons_zero, List.getElem_cons_succ, List.setIfInBounds_toArray, List.set_cons_zero, List.set_cons_succ]
        go_simp
        have Hl := World.ownsRow.alloc Hl (.cells #[.int .i64 0, .slice none 0 0] 25)
        have E := ext_alloc E (.cells #[.int .i64 0, .slice none 0 0] 25)
        have Ho := Box.new ((D).alloc (.cells #[.int .i64 b.f, .int .i64 b.t, .int .i64 b.m] 78)) 25 #[.int .i64 0, .slice none 0 0]
        try simp only [World.size_alloc] at Ho
        obtain ⟨w29, hw29⟩ : ∃ w29, Hid (w29 = ((D).alloc (.cells #[.int .i64 b.f, .int .i64 b.t, .int .i64 b.m] 78)).alloc (.cells #[.int .i64 0, .slice none 0 0] 25)) := ⟨_, rfl⟩
        have q29 : ((D).alloc (.cells #[.int .i64 b.f, .int .i64 b.t, .int .i64 b.m] 78)).heap.size < w29.heap.size := by rw [hw29.out]; simp only [World.size_alloc]; omega
        try simp only [World.size_alloc] at q29
        rw [← hw29.out] at Ho E ⊢
        rw [← hw29.out] at Hl
        refine hK.out _ _ ?_ (fun hHeld => ?_)
        · exact ⟨(B0.ext E).cell0 rfl, (B0.ext E).cell0 rfl, (B1.ext E).cell0 rfl, (B1.ext E).cell0 rfl, (B1.ext E).cell0 rfl⟩
        clear hK K'
        try simp only [Act.put, List.getElem_toArray, List.getElem_cons_zero, List.getElem_cons_succ, List.setIfInBounds_toArray, List.set_cons_zero, List.set_cons_succ]
        refine wpAnyH_ready (rs := [2]) (by kernel_rfl) (by simp) ?_
        refine AllReadyH.cons rfl (fun K' hK => ?_) AllReadyH.nil
        refine if_yes (by rfl) ?_
        try simp only [Act.put, List.getElem_toArray, List.getElem_cons_zero, List.getElem_cons_succ, List.setIfInBounds_toArray, List.set_cons_zero, List.set_cons_succ]
        go_simp
        have Hl := World.ownsRow.alloc Hl (.cells #[] 78)
        have Ho := Ho.alloc (.cells #[] 78)
        have E := ext_alloc E (.cells #[] 78)
        have Ha := World.ownsRow_lit (base := W.heap.size) (e := 78) (size := 3) (w29) #[] 0 (by first | exact Nat.le_refl _ | (simp only [World.size_alloc]; omega) | omega) (by decide) rfl
        try simp only [World.size_alloc] at Ha
        refine hK.out _ _ ?_ (fun hHeld => ?_)
        · exact ⟨(B0.ext E).cell0 rfl, (B0.ext E).cell0 rfl, (B1.ext E).cell0 rfl, (B1.ext E).cell0 rfl, (B1.ext E).cell0 rfl⟩
        clear hK K'
        try simp only [Act.put, List.getElem_toArray, List.getElem_cons_zero, List.getElem_cons_succ, List.setIfInBounds_toArray, List.set_cons_zero, List.set_cons_succ]
        refine wpAnyH_ready (rs := [5]) (by kernel_rfl) (by simp) ?_
        refine AllReadyH.cons rfl (fun K' hK => ?_) AllReadyH.nil
        refine if_yes (by rfl) ?_
        try simp only [Act.put, List.getElem_toArray, List.getElem_cons_zero, List.getElem_cons_succ, List.setIfInBounds_toArray, List.set_cons_zero, List.set_cons_succ]
        refine wp_app _ (.tmp 9) (.tmp 11) 23 rfl W.heap.size 0 78 i0 _ 3 24 Try.underlying23 Hi.out Hz0.out Hz1.out Hz2.out rfl (by decide) (.slice (some ⟨w29.heap.size, 0, none⟩) 0 0) (0) _ rfl Ha (.slice a p.bs.length cap) p.bs.length (bcells p.bs) rfl (Hv.out.ext (ext_trans HB E)) (bcells_one _) ?_ ?_ ?_ ?_
        · unfold maxLen; omega
        · omega
        · first | omega | (simp only [World.size_alloc, World.size_drew]; omega)
        intro v30 w30 hown hgrow
        try simp only [Nat.zero_add, List.nil_append] at hown
        have Ho := Ho.grown hgrow (own_not_box Ha Ho)
        have Hl := own_far Hl hgrow (fun k hk e => by simp [Value.ownBlock] at hk e; omega)
        have E := ext_grown E hgrow (fun k hk => (own_lt Ha k hk).1)
        have q30 := hgrow.size
        try simp only [World.size_alloc] at q30
        obtain ⟨a30, c30, rfl, -⟩ := own_open hown
        have Ha := hown
        clear hown hgrow
        refine hK.out _ _ ?_ (fun hHeld => ?_)
        · exact ⟨(B0.ext E).cell0 rfl, (B0.ext E).cell0 rfl, (B1.ext E).cell0 rfl, (B1.ext E).cell0 rfl, (B1.ext E).cell0 rfl⟩
        clear hK K'
        try simp only [Act.put, List.getElem_toArray, List.getElem_cons_zero, List.getElem_cons_succ, List.setIfInBounds_toArray, List.set_cons_zero, List.set_cons_succ]
        refine wpAnyH_ready (rs := [8]) (by kernel_rfl) (by simp) ?_
        refine AllReadyH.cons rfl (fun K' hK => ?_) AllReadyH.nil
        refine if_yes (by rfl) ?_
        try simp only [Act.put, List.getElem_toArray, List.getElem_cons_zero, List.getElem_cons_succ, List.setIfInBounds_toArray, List.set_cons_zero, List.set_cons_succ]
        refine wp_app _ (.tmp 12) (.tmp 14) 23 rfl W.heap.size 0 78 i0 _ 3 24 Try.underlying23 Hi.out Hz0.out Hz1.out Hz2.out rfl (by decide) (.slice a30 (p.bs.length) c30) (p.bs.length) _ rfl Ha (.slice (some ⟨D.heap.size, 0, none⟩) 1 1) 1 (bcells [b]) rfl (Hl) (bcells_one _) ?_ ?_ ?_ ?_
        · unfold maxLen; omega
        · omega
        · first | omega | (simp only [World.size_alloc, World.size_drew]; omega)
        intro v31 w31 hown hgrow
        try simp only [Nat.zero_add, List.nil_append] at hown
        have Ho := Ho.grown hgrow (own_not_box Ha Ho)
        have E := ext_grown E hgrow (fun k hk => (own_lt Ha k hk).1)
        have q31 := hgrow.size
        try simp only [World.size_alloc] at q31
        obtain ⟨a31, c31, rfl, -⟩ := own_open hown
        have Ha := hown
        clear hown hgrow
        refine hK.out _ _ ?_ (fun hHeld => ?_)
        · exact ⟨(B0.ext E).cell0 rfl, (B0.ext E).cell0 rfl, (B1.ext E).cell0 rfl, (B1.ext E).cell0 rfl, (B1.ext E).cell0 rfl⟩
        clear hK K'
        try simp only [Act.put, List.getElem_toArray, List.getElem_cons_zero, List.getElem_cons_succ, List.setIfInBounds_toArray, List.set_cons_zero, List.set_cons_succ]
        refine wpAnyH_take (i := 9) (v := ?_) rfl (by kernel_rfl) (by kernel_rfl) (by kernel_rfl) (fun _ _ _ h => h) (Or.inl ⟨by rfl, fun w' hS' => ?_⟩) (by assumption) ?_
        rotate_left
        · (try dsimp only at hS'); go_simp; (try rw [if_pos (by omega)]); try with_reducible rfl
        try simp only [Act.put, List.getElem_toArray, List.getElem_cons_zero, List.getElem_cons_succ, List.setIfInBounds_toArray, List.set_cons_zero, List.set_cons_succ]
        obtain ⟨rco, rzo⟩ := (Ho).rules; have rlo := (Ho).lt
        refine wpAnyH_done (by kernel_rfl) ?_ _
        refine tail_step rfl (fun K' hK => ?_)
        refine if_yes (by rfl) ?_
        try simp only [Act.put, List.getElem_toArray, List.getElem_cons_zero, List.getElem_cons_succ, List.setIfInBounds_toArray, List.set_cons_zero, List.set_cons_succ]
        go_simp
        refine hK _ _ ?_
        clear hK K'
        try simp only [Act.put, List.getElem_toArray, List.getElem_cons_zero, List.getElem_cons_succ, List.setIfInBounds_toArray, List.set_cons_zero, List.set_cons_succ]
        go_wp2_with fail
        go_meet
        exact out_done (p := ⟨p.pts, p.bs ++ [b]⟩) Ho (by simp only [bcells_append]; exact Ha) (by omega) E
    · refine if_yes (by rfl) ?_
      try simp only [Act.put, List.getElem_toArray, List.getElem_cons_zero, List.getElem_cons_succ, List.setIfInBounds_toArray, List.set_cons_zero, List.set_cons_succ]
      go_simp
      have E := ext_alloc E (.cells #[.int .i64 0, .slice none 0 0] 25)
      have Ho := Box.new (D) 25 #[.int .i64 0, .slice none 0 0]
      try simp only [World.size_alloc] at Ho
      obtain ⟨w32, hw32⟩ : ∃ w32, Hid (w32 = (D).alloc (.cells #[.int .i64 0, .slice none 0 0] 25)) := ⟨_, rfl⟩
      have q32 : (D).heap.size < w32.heap.size := by rw [hw32.out]; simp only [World.size_alloc]; omega
      try simp only [World.size_alloc] at q32
      rw [← hw32.out] at Ho E ⊢
      refine hK.out _ _ ?_ (fun hHeld => ?_)
      · exact ⟨(B0.ext E).cell0 rfl, (B0.ext E).cell0 rfl, (B1.ext E).cell0 rfl, (B1.ext E).cell0 rfl, (B1.ext E).cell0 rfl⟩
      clear hK K'
      try simp only [Act.put, List.getElem_toArray, List.getElem_cons_zero, List.getElem_cons_succ, List.setIfInBounds_toArray, List.set_cons_zero, List.set_cons_succ]
      refine wpAnyH_ready (rs := [2, 7]) (by kernel_rfl) (by simp) ?_
      refine AllReadyH.cons rfl (fun K' hK => ?_) (AllReadyH.cons rfl (fun K' hK => ?_) AllReadyH.nil)
      · refine if_yes (by rfl) ?_
        try simp only [Act.put, List.getElem_toArray, List.getElem_cons_zero, List.getElem_cons_succ, List.setIfInBounds_toArray, List.set_cons_zero, List.set_cons_succ]
        go_simp
        have Ho := Ho.alloc (.cells #[] 78)
        have E := ext_alloc E (.cells #[] 78)
        have Ha := World.ownsRow_lit (base := W.heap.size) (e := 78) (size := 3) (w32) #[] 0 (by first | exact Nat.le_refl _ | (simp only [World.size_alloc]; omega) | omega) (by decide) rfl
        try simp only [World.size_alloc] at Ha
        refine hK.out _ _ ?_ (fun hHeld => ?_)
        · exact ⟨(B0.ext E).cell0 rfl, (B0.ext E).cell0 rfl, (B1.ext E).cell0 rfl, (B1.ext E).cell0 rfl, (B1.ext E).cell0 rfl⟩
        clear hK K'
        try simp only [Act.put, List.getElem_toArray, List.getElem_cons_zero, List.getElem_cons_succ, List.setIfInBounds_toArray, List.set_cons_zero, List.set_cons_succ]
        refine wpAnyH_ready (rs := [5, 7]) (by kernel_rfl) (by simp) ?_
        refine AllReadyH.cons rfl (fun K' hK => ?_) (AllReadyH.cons rfl (fun K' hK => ?_) AllReadyH.nil)
        · refine if_yes (by rfl) ?_
          try simp only [Act.put, List.getElem_toArray, List.getElem_cons_zero, List.getElem_cons_succ, List.setIfInBounds_toArray, List.set_cons_zero, List.set_cons_succ]
          refine wp_app _ (.tmp 9) (.tmp 11) 23 rfl W.heap.size 0 78 i0 _ 3 24 Try.underlying23 Hi.out Hz0.out Hz1.out Hz2.out rfl (by decide) (.slice (some ⟨w32.heap.size, 0, none⟩) 0 0) (0) _ rfl Ha (.slice a p.bs.length cap) p.bs.length (bcells p.bs) rfl (Hv.out.ext (ext_trans HB E)) (bcells_one _) ?_ ?_ ?_ ?_
          · unfold maxLen; omega
          · omega
          · first | omega | (simp only [World.size_alloc, World.size_drew]; omega)
          intro v33 w33 hown hgrow
          try simp only [Nat.zero_add, List.nil_append] at hown
          have Ho := Ho.grown hgrow (own_not_box Ha Ho)
          have E := ext_grown E hgrow (fun k hk => (own_lt Ha k hk).1)
          have q33 := hgrow.size
          try simp only [World.size_alloc] at q33
          obtain ⟨a33, c33, rfl, -⟩ := own_open hown
          have Ha := hown
          clear hown hgrow
          refine hK.out _ _ ?_ (fun hHeld => ?_)
          · exact ⟨(B0.ext E).cell0 rfl, (B0.ext E).cell0 rfl, (B1.ext E).cell0 rfl, (B1.ext E).cell0 rfl, (B1.ext E).cell0 rfl⟩
          clear hK K'
          try simp only [Act.put, List.getElem_toArray, List.getElem_cons_zero, List.getElem_cons_succ, List.setIfInBounds_toArray, List.set_cons_zero, List.set_cons_succ]
          refine wpAnyH_ready (rs := [7]) (by kernel_rfl) (by simp) ?_
          refine AllReadyH.cons rfl (fun K' hK => ?_) AllReadyH.nil
          refine if_yes (by rfl) ?_
          try simp only [Act.put, List.getElem_toArray, List.getElem_cons_zero, List.getElem_cons_succ, List.setIfInBounds_toArray, List.set_cons_zero, List.set_cons_succ]
          go_simp
          have Ha := World.ownsRow.alloc Ha (.cells #[.int .i64 b.f, .int .i64 b.t, .int .i64 b.m] 78)
          have Ho := Ho.alloc (.cells #[.int .i64 b.f, .int .i64 b.t, .int .i64 b.m] 78)
          have E := ext_alloc E (.cells #[.int .i64 b.f, .int .i64 b.t, .int .i64 b.m] 78)
          have Hl := World.ownsRow_lit (base := 0) (e := 78) (size := 3) (w33) #[.int .i64 b.f, .int .i64 b.t, .int .i64 b.m] 1 (Nat.zero_le _) (by decide) rfl
          try simp only [World.size_alloc] at Hl
          refine hK.out _ _ ?_ (fun hHeld => ?_)
          · exact ⟨(B0.ext E).cell0 rfl, (B0.ext E).cell0 rfl, (B1.ext E).cell0 rfl, (B1.ext E).cell0 rfl, (B1.ext E).cell0 rfl⟩
          clear hK K'
          try simp only [Act.put, List.getElem_toArray, List.getElem_cons_zero, List.getElem_cons_succ, List.setIfInBounds_toArray, List.set_cons_zero, List.set_cons_succ]
          refine wpAnyH_ready (rs := [8]) (by kernel_rfl) (by simp) ?_
          refine AllReadyH.cons rfl (fun K' hK => ?_) AllReadyH.nil
          refine if_yes (by rfl) ?_
          try simp only [Act.put, List.getElem_toArray, List.getElem_cons_zero, List.getElem_cons_succ, List.setIfInBounds_toArray, List.set_cons_zero, List.set_cons_succ]
          refine wp_app _ (.tmp 12) (.tmp 14) 23 rfl W.heap.size 0 78 i0 _ 3 24 Try.underlying23 Hi.out Hz0.out Hz1.out Hz2.out rfl (by decide) (.slice a33 (p.bs.length) c33) (p.bs.length) _ rfl Ha (.slice (some ⟨w33.heap.size, 0, none⟩) 1 1) 1 (bcells [b]) rfl (Hl) (bcells_one _) ?_ ?_ ?_ ?_
          · unfold maxLen; omega
          · omega
          · first | omega | (simp only [World.size_alloc, World.size_drew]; omega)
          intro v34 w34 hown hgrow
          try simp only [Nat.zero_add, List.nil_append] at hown
          have Ho := Ho.grown hgrow (own_not_box Ha Ho)
          have E := ext_grown E hgrow (fun k hk => (own_lt Ha k hk).1)
          have q34 := hgrow.size
          try simp only [World.size_alloc] at q34
          obtain ⟨a34, c34, rfl, -⟩ := own_open hown
          have Ha := hown
          clear hown hgrow
          refine hK.out _ _ ?_ (fun hHeld => ?_)
          · exact ⟨(B0.ext E).cell0 rfl, (B0.ext E).cell0 rfl, (B1.ext E).cell0 rfl, (B1.ext E).cell0 rfl, (B1.ext E).cell0 rfl⟩
          clear hK K'
          try simp only [Act.put, List.getElem_toArray, List.getElem_cons_zero, List.getElem_cons_succ, List.setIfInBounds_toArray, List.set_cons_zero, List.set_cons_succ]
          refine wpAnyH_take (i := 9) (v := ?_) rfl (by kernel_rfl) (by kernel_rfl) (by kernel_rfl) (fun _ _ _ h => h) (Or.inl ⟨by rfl, fun w' hS' => ?_⟩) (by assumption) ?_
          rotate_left
          · (try dsimp only at hS'); go_simp; (try rw [if_pos (by omega)]); try with_reducible rfl
          try simp only [Act.put, List.getElem_toArray, List.getElem_cons_zero, List.getElem_cons_succ, List.setIfInBounds_toArray, List.set_cons_zero, List.set_cons_succ]
          obtain ⟨rco, rzo⟩ := (Ho).rules; have rlo := (Ho).lt
          refine wpAnyH_done (by kernel_rfl) ?_ _
          refine tail_step rfl (fun K' hK => ?_)
          refine if_yes (by rfl) ?_
          try simp only [Act.put, List.getElem_toArray, List.getElem_cons_zero, List.getElem_cons_succ, List.setIfInBounds_toArray, List.set_cons_zero, List.set_cons_succ]
          go_simp
          refine hK _ _ ?_
          clear hK K'
          try simp only [Act.put, List.getElem_toArray, List.getElem_cons_zero, List.getElem_cons_succ, List.setIfInBounds_toArray, List.set_cons_zero, List.set_cons_succ]
          go_wp2_with fail
          go_meet
          exact out_done (p := ⟨p.pts, p.bs ++ [b]⟩) Ho (by simp only [bcells_append]; exact Ha) (by omega) E
        · refine if_yes (by rfl) ?_
          try simp only [Act.put, List.getElem_toArray, List.getElem_cons_zero, List.getElem_cons_succ, List.setIfInBounds_toArray, List.set_cons_zero, List.set_cons_succ]
          go_simp
          have Ha := World.ownsRow.alloc Ha (.cells #[.int .i64 b.f, .int .i64 b.t, .int .i64 b.m] 78)
          have Ho := Ho.alloc (.cells #[.int .i64 b.f, .int .i64 b.t, .int .i64 b.m] 78)
          have E := ext_alloc E (.cells #[.int .i64 b.f, .int .i64 b.t, .int .i64 b.m] 78)
          have Hl := World.ownsRow_lit (base := 0) (e := 78) (size := 3) ((w32).alloc (.cells #[] 78)) #[.int .i64 b.f, .int .i64 b.t, .int .i64 b.m] 1 (Nat.zero_le _) (by decide) rfl
          try simp only [World.size_alloc] at Hl
          refine hK.out _ _ ?_ (fun hHeld => ?_)
          · exact ⟨(B0.ext E).cell0 rfl, (B0.ext E).cell0 rfl, (B1.ext E).cell0 rfl, (B1.ext E).cell0 rfl, (B1.ext E).cell0 rfl⟩
          clear hK K'
          try simp only [Act.put, List.getElem_toArray, List.getElem_cons_zero, List.getElem_cons_succ, List.setIfInBounds_toArray, List.set_cons_zero, List.set_cons_succ]
          refine wpAnyH_ready (rs := [5]) (by kernel_rfl) (by simp) ?_
          refine AllReadyH.cons rfl (fun K' hK => ?_) AllReadyH.nil
          refine if_yes (by rfl) ?_
          try simp only [Act.put, List.getElem_toArray, List.getElem_cons_zero, List.getElem_cons_succ, List.setIfInBounds_toArray, List.set_cons_zero, List.set_cons_succ]
          refine wp_app _ (.tmp 9) (.tmp 11) 23 rfl W.heap.size 0 78 i0 _ 3 24 Try.underlying23 Hi.out Hz0.out Hz1.out Hz2.out rfl (by decide) (.slice (some ⟨w32.heap.size, 0, none⟩) 0 0) (0) _ rfl Ha (.slice a p.bs.length cap) p.bs.length (bcells p.bs) rfl (Hv.out.ext (ext_trans HB E)) (bcells_one _) ?_ ?_ ?_ ?_
          · unfold maxLen; omega
          · omega
          · first | omega | (simp only [World.size_alloc, World.size_drew]; omega)
          intro v35 w35 hown hgrow
          try simp only [Nat.zero_add, List.nil_append] at hown
          have Ho := Ho.grown hgrow (own_not_box Ha Ho)
          have Hl := own_far Hl hgrow (fun k hk e => by simp [Value.ownBlock] at hk e; omega)
          have E := ext_grown E hgrow (fun k hk => (own_lt Ha k hk).1)
          have q35 := hgrow.size
          try simp only [World.size_alloc] at q35
          obtain ⟨a35, c35, rfl, -⟩ := own_open hown
          have Ha := hown
          clear hown hgrow
          refine hK.out _ _ ?_ (fun hHeld => ?_)
          · exact ⟨(B0.ext E).cell0 rfl, (B0.ext E).cell0 rfl, (B1.ext E).cell0 rfl, (B1.ext E).cell0 rfl, (B1.ext E).cell0 rfl⟩
          clear hK K'
          try simp only [Act.put, List.getElem_toArray, List.getElem_cons_zero, List.getElem_cons_succ, List.setIfInBounds_toArray, List.set_cons_zero, List.set_cons_succ]
          refine wpAnyH_ready (rs := [8]) (by kernel_rfl) (by simp) ?_
          refine AllReadyH.cons rfl (fun K' hK => ?_) AllReadyH.nil
          refine if_yes (by rfl) ?_
          try simp only [Act.put, List.getElem_toArray, List.getElem_cons_zero, List.getElem_cons_succ, List.setIfInBounds_toArray, List.set_cons_zero, List.set_cons_succ]
          refine wp_app _ (.tmp 12) (.tmp 14) 23 rfl W.heap.size 0 78 i0 _ 3 24 Try.underlying23 Hi.out Hz0.out Hz1.out Hz2.out rfl (by decide) (.slice a35 (p.bs.length) c35) (p.bs.length) _ rfl Ha (.slice (some ⟨w32.heap.size + 1, 0, none⟩) 1 1) 1 (bcells [b]) rfl (Hl) (bcells_one _) ?_ ?_ ?_ ?_
          · unfold maxLen; omega
          · omega
          · first | omega | (simp only [World.size_alloc, World.size_drew]; omega)
          intro v36 w36 hown hgrow
          try simp only [Nat.zero_add, List.nil_append] at hown
          have Ho := Ho.grown hgrow (own_not_box Ha Ho)
          have E := ext_grown E hgrow (fun k hk => (own_lt Ha k hk).1)
          have q36 := hgrow.size
          try simp only [World.size_alloc] at q36
          obtain ⟨a36, c36, rfl, -⟩ := own_open hown
          have Ha := hown
          clear hown hgrow
          refine hK.out _ _ ?_ (fun hHeld => ?_)
          · exact ⟨(B0.ext E).cell0 rfl, (B0.ext E).cell0 rfl, (B1.ext E).cell0 rfl, (B1.ext E).cell0 rfl, (B1.ext E).cell0 rfl⟩
          clear hK K'
          try simp only [Act.put, List.getElem_toArray, List.getElem_cons_zero, List.getElem_cons_succ, List.setIfInBounds_toArray, List.set_cons_zero, List.set_cons_succ]
          refine wpAnyH_take (i := 9) (v := ?_) rfl (by kernel_rfl) (by kernel_rfl) (by kernel_rfl) (fun _ _ _ h => h) (Or.inl ⟨by rfl, fun w' hS' => ?_⟩) (by assumption) ?_
          rotate_left
          · (try dsimp only at hS'); go_simp; (try rw [if_pos (by omega)]); try with_reducible rfl
          try simp only [Act.put, List.getElem_toArray, List.getElem_cons_zero, List.getElem_cons_succ, List.setIfInBounds_toArray, List.set_cons_zero, List.set_cons_succ]
          obtain ⟨rco, rzo⟩ := (Ho).rules; have rlo := (Ho).lt
          refine wpAnyH_done (by kernel_rfl) ?_ _
          refine tail_step rfl (fun K' hK => ?_)
          refine if_yes (by rfl) ?_
          try simp only [Act.put, List.getElem_toArray, List.getElem_cons_zero, List.getElem_cons_succ, List.setIfInBounds_toArray, List.set_cons_zero, List.set_cons_succ]
          go_simp
          refine hK _ _ ?_
          clear hK K'
          try simp only [Act.put, List.getElem_toArray, List.getElem_cons_zero, List.getElem_cons_succ, List.setIfInBounds_toArray, List.set_cons_zero, List.set_cons_succ]
          go_wp2_with fail
          go_meet
          exact out_done (p := ⟨p.pts, p.bs ++ [b]⟩) Ho (by simp only [bcells_append]; exact Ha) (by omega) E
      · refine if_yes (by rfl) ?_
        try simp only [Act.put, List.getElem_toArray, List.getElem_cons_zero, List.getElem_cons_succ, List.setIfInBounds_toArray, List.set_cons_zero, List.set_cons_succ]
        go_simp
        have Ho := Ho.alloc (.cells #[.int .i64 b.f, .int .i64 b.t, .int .i64 b.m] 78)
        have E := ext_alloc E (.cells #[.int .i64 b.f, .int .i64 b.t, .int .i64 b.m] 78)
        have Hl := World.ownsRow_lit (base := 0) (e := 78) (size := 3) (w32) #[.int .i64 b.f, .int .i64 b.t, .int .i64 b.m] 1 (Nat.zero_le _) (by decide) rfl
        try simp only [World.size_alloc] at Hl
        refine hK.out _ _ ?_ (fun hHeld => ?_)
        · exact ⟨(B0.ext E).cell0 rfl, (B0.ext E).cell0 rfl, (B1.ext E).cell0 rfl, (B1.ext E).cell0 rfl, (B1.ext E).cell0 rfl⟩
        clear hK K'
        try simp only [Act.put, List.getElem_toArray, List.getElem_cons_zero, List.getElem_cons_succ, List.setIfInBounds_toArray, List.set_cons_zero, List.set_cons_succ]
        refine wpAnyH_ready (rs := [2]) (by kernel_rfl) (by simp) ?_
        refine AllReadyH.cons rfl (fun K' hK => ?_) AllReadyH.nil
        refine if_yes (by rfl) ?_
        try simp only [Act.put, List.getElem_toArray, List.getElem_cons_zero, List.getElem_cons_succ, List.setIfInBounds_toArray, List.set_cons_zero, List.set_cons_succ]
        go_simp
        have Hl := World.ownsRow.alloc Hl (.cells #[] 78)
        have Ho := Ho.alloc (.cells #[] 78)
        have E := ext_alloc E (.cells #[] 78)
        have Ha := World.ownsRow_lit (base := W.heap.size) (e := 78) (size := 3) ((w32).alloc (.cells #[.int .i64 b.f, .int .i64 b.t, .int .i64 b.m] 78)) #[] 0 (by first | exact Nat.le_refl _ | (simp only [World.size_alloc]; omega) | omega) (by decide) rfl
        try simp only [World.size_alloc] at Ha
        refine hK.out _ _ ?_ (fun hHeld => ?_)
        · exact ⟨(B0.ext E).cell0 rfl, (B0.ext E).cell0 rfl, (B1.ext E).cell0 rfl, (B1.ext E).cell0 rfl, (B1.ext E).cell0 rfl⟩
        clear hK K'
        try simp only [Act.put, List.getElem_toArray, List.getElem_cons_zero, List.getElem_cons_succ, List.setIfInBounds_toArray, List.set_cons_zero, List.set_cons_succ]
        refine wpAnyH_ready (rs := [5]) (by kernel_rfl) (by simp) ?_
        refine AllReadyH.cons rfl (fun K' hK => ?_) AllReadyH.nil
        refine if_yes (by rfl) ?_
        try simp only [Act.put, List.getElem_toArray, List.getElem_cons_zero, List.getElem_cons_succ, List.setIfInBounds_toArray, List.set_cons_zero, List.set_cons_succ]
        refine wp_app _ (.tmp 9) (.tmp 11) 23 rfl W.heap.size 0 78 i0 _ 3 24 Try.underlying23 Hi.out Hz0.out Hz1.out Hz2.out rfl (by decide) (.slice (some ⟨w32.heap.size + 1, 0, none⟩) 0 0) (0) _ rfl Ha (.slice a p.bs.length cap) p.bs.length (bcells p.bs) rfl (Hv.out.ext (ext_trans HB E)) (bcells_one _) ?_ ?_ ?_ ?_
        · unfold maxLen; omega
        · omega
        · first | omega | (simp only [World.size_alloc, World.size_drew]; omega)
        intro v37 w37 hown hgrow
        try simp only [Nat.zero_add, List.nil_append] at hown
        have Ho := Ho.grown hgrow (own_not_box Ha Ho)
        have Hl := own_far Hl hgrow (fun k hk e => by simp [Value.ownBlock] at hk e; omega)
        have E := ext_grown E hgrow (fun k hk => (own_lt Ha k hk).1)
        have q37 := hgrow.size
        try simp only [World.size_alloc] at q37
        obtain ⟨a37, c37, rfl, -⟩ := own_open hown
        have Ha := hown
        clear hown hgrow
        refine hK.out _ _ ?_ (fun hHeld => ?_)
        · exact ⟨(B0.ext E).cell0 rfl, (B0.ext E).cell0 rfl, (B1.ext E).cell0 rfl, (B1.ext E).cell0 rfl, (B1.ext E).cell0 rfl⟩
        clear hK K'
        try simp only [Act.put, List.getElem_toArray, List.getElem_cons_zero, List.getElem_cons_succ, List.setIfInBounds_toArray, List.set_cons_zero, List.set_cons_succ]
        refine wpAnyH_ready (rs := [8]) (by kernel_rfl) (by simp) ?_
        refine AllReadyH.cons rfl (fun K' hK => ?_) AllReadyH.nil
        refine if_yes (by rfl) ?_
        try simp only [Act.put, List.getElem_toArray, List.getElem_cons_zero, List.getElem_cons_succ, List.setIfInBounds_toArray, List.set_cons_zero, List.set_cons_succ]
        refine wp_app _ (.tmp 12) (.tmp 14) 23 rfl W.heap.size 0 78 i0 _ 3 24 Try.underlying23 Hi.out Hz0.out Hz1.out Hz2.out rfl (by decide) (.slice a37 (p.bs.length) c37) (p.bs.length) _ rfl Ha (.slice (some ⟨w32.heap.size, 0, none⟩) 1 1) 1 (bcells [b]) rfl (Hl) (bcells_one _) ?_ ?_ ?_ ?_
        · unfold maxLen; omega
        · omega
        · first | omega | (simp only [World.size_alloc, World.size_drew]; omega)
        intro v38 w38 hown hgrow
        try simp only [Nat.zero_add, List.nil_append] at hown
        have Ho := Ho.grown hgrow (own_not_box Ha Ho)
        have E := ext_grown E hgrow (fun k hk => (own_lt Ha k hk).1)
        have q38 := hgrow.size
        try simp only [World.size_alloc] at q38
        obtain ⟨a38, c38, rfl, -⟩ := own_open hown
        have Ha := hown
        clear hown hgrow
        refine hK.out _ _ ?_ (fun hHeld => ?_)
        · exact ⟨(B0.ext E).cell0 rfl, (B0.ext E).cell0 rfl, (B1.ext E).cell0 rfl, (B1.ext E).cell0 rfl, (B1.ext E).cell0 rfl⟩
        clear hK K'
        try simp only [Act.put, List.getElem_toArray, List.getElem_cons_zero, List.getElem_cons_succ, List.setIfInBounds_toArray, List.set_cons_zero, List.set_cons_succ]
        refine wpAnyH_take (i := 9) (v := ?_) rfl (by kernel_rfl) (by kernel_rfl) (by kernel_rfl) (fun _ _ _ h => h) (Or.inl ⟨by rfl, fun w' hS' => ?_⟩) (by assumption) ?_
        rotate_left
        · (try dsimp only at hS'); go_simp; (try rw [if_pos (by omega)]); try with_reducible rfl
        try simp only [Act.put, List.getElem_toArray, List.getElem_cons_zero, List.getElem_cons_succ, List.setIfInBounds_toArray, List.set_cons_zero, List.set_cons_succ]
        obtain ⟨rco, rzo⟩ := (Ho).rules; have rlo := (Ho).lt
        refine wpAnyH_done (by kernel_rfl) ?_ _
        refine tail_step rfl (fun K' hK => ?_)
        refine if_yes (by rfl) ?_
        try simp only [Act.put, List.getElem_toArray, List.getElem_cons_zero, List.getElem_cons_succ, List.setIfInBounds_toArray, List.set_cons_zero, List.set_cons_succ]
        go_simp
        refine hK _ _ ?_
        clear hK K'
        try simp only [Act.put, List.getElem_toArray, List.getElem_cons_zero, List.getElem_cons_succ, List.setIfInBounds_toArray, List.set_cons_zero, List.set_cons_succ]
        go_wp2_with fail
        go_meet
        exact out_done (p := ⟨p.pts, p.bs ++ [b]⟩) Ho (by simp only [bcells_append]; exact Ha) (by omega) E
  case rest =>
    obtain ⟨go, v6, rfl, Bo, hv6, hgo, E⟩ := hcut
    obtain ⟨a6, c6, rfl, -⟩ := hv6.open
    have Hv6 := Lib.hid hv6
    clear hv6
    obtain ⟨x, hx⟩ : ∃ x : Pl, Hid (x = ⟨p.pts, p.bs ++ [b]⟩) := ⟨_, rfl⟩
    have hx1 := congrArg Pl.pts hx.out; have hx2 := congrArg Pl.bs hx.out; have Hx1 := Lib.hid hx1; have Hx2 := Lib.hid hx2
    simp only at hx1 hx2
    skip
    have B0 := B0.ext E
    have B1 := B1.ext E
    have B2 := B2.ext E
    have E := ext_trans HB E
    have HAns : Hid ((p.ok = true ∧ x.ok = true) → (p.plus [b]).told = x ∧ (p.plus [b]).ok = true) := fun h => by
      have gx : x = p.plus [b] := hx.out
      rw [← gx]; exact ⟨if_pos h.2, h.2⟩
    have HNo : Hid (¬ (p.ok = true ∧ x.ok = true) → (p.plus [b]).told = Pl.zero ∧ (p.plus [b]).ok = false) := fun h => by
      have gx : x = p.plus [b] := hx.out
      have hok : (p.plus [b]).ok = false := by
        cases hh : (p.plus [b]).ok with
        | false => rfl
        | true => exact absurd ⟨plus_ok hh, by rw [gx, hh]⟩ h
      exact ⟨by simp [Pl.told, hok], hok⟩
    have gx : x.pts = p.pts := by rw [hx.out]
    have gb : x.bs = p.bs ++ [b] := by rw [hx.out]
    simp only [← gb] at Hv6 Bo ⊢
    rw [← gx] at Bo
    have HC := Lib.hid gx; clear gx gb hx1 hx2 HC
    obtain ⟨rc0, rz0⟩ := (B0).rules; have rl0 := (B0).lt
    go_wp2_with fail
    refine (spec_PlanOk p _ _ (Hv.out.ext E)).mono ?_
    rintro e w1 ⟨rfl, hb1⟩
    have B0 := B0.ext hb1
    have B1 := B1.ext hb1
    have B2 := B2.ext hb1
    have Bo := Bo.ext hb1
    have Hv6 := Lib.hid (Hv6.out.ext hb1)
    have E := ext_trans E hb1
    have z1 := hb1.size
    clear hb1
    by_cases h1 : p.ok = true
    · rw [h1]
      obtain ⟨rco, rzo⟩ := (Bo).rules; have rlo := (Bo).lt
      go_wp2_with fail
      refine (spec_PlanOk x _ _ (own_base Hv6.out (Nat.zero_le _))).mono ?_
      rintro e w2 ⟨rfl, hb2⟩
      have B0 := B0.ext hb2
      have B1 := B1.ext hb2
      have B2 := B2.ext hb2
      have Bo := Bo.ext hb2
      have Hv6 := Lib.hid (Hv6.out.ext hb2)
      have E := ext_trans E hb2
      have z2 := hb2.size
      clear hb2
      by_cases h2 : x.ok = true
      · rw [h2]
        have hC : p.ok = true ∧ x.ok = true := ⟨h1, h2⟩
        have HC := Lib.hid hC; clear hC
        obtain ⟨rc2, rz2⟩ := (B2).rules; have rl2 := (B2).lt
        obtain ⟨rco, rzo⟩ := (Bo).rules; have rlo := (Bo).lt
        go_wp2_with fail
        refine bodyPost_ret (v := .tuple #[.agg #[.int .i64 x.pts, .slice a6 x.bs.length c6], .bool true]) (by simp [results, Try.results94, go_sem, *]) rfl ?_
        rw [(HAns.out HC.out).1, (HAns.out HC.out).2]
        exact ⟨_, rfl, own_base (own_low (own_low Hv6.out (by simp; omega) _) (by simp; omega) _) (by omega), ext_set (ext_set E (by simp <;> omega) _) (by simp <;> omega) _⟩
      · simp only [Bool.not_eq_true] at h2
        rw [h2]
        have hC : ¬ (p.ok = true ∧ x.ok = true) := by rintro ⟨g0, g1⟩; rw [h2] at g1; cases g1
        have HC := Lib.hid hC; clear hC
        obtain ⟨rc2, rz2⟩ := (B2).rules; have rl2 := (B2).lt
        go_wp2_with fail
        refine bodyPost_ret (v := .tuple #[.agg #[.int .i64 0, .slice none 0 0], .bool false]) (by simp [results, Try.results94, go_sem, *]) rfl ?_
        rw [(HNo.out HC.out).1, (HNo.out HC.out).2]
        exact ⟨_, rfl, Bds.nil _ _, ext_set (ext_set E (by simp <;> omega) _) (by simp <;> omega) _⟩
    · simp only [Bool.not_eq_true] at h1
      rw [h1]
      have hC : ¬ (p.ok = true ∧ x.ok = true) := by rintro ⟨g0, g1⟩; rw [h1] at g0; cases g0
      have HC := Lib.hid hC; clear hC
      obtain ⟨rc2, rz2⟩ := (B2).rules; have rl2 := (B2).lt
      go_wp2_with fail
      refine bodyPost_ret (v := .tuple #[.agg #[.int .i64 0, .slice none 0 0], .bool false]) (by simp [results, Try.results94, go_sem, *]) rfl ?_
      rw [(HNo.out HC.out).1, (HNo.out HC.out).2]
      exact ⟨_, rfl, Bds.nil _ _, ext_set (ext_set E (by simp <;> omega) _) (by simp <;> omega) _⟩
end Go.Proofs.Ytffcfambgcaikaa
