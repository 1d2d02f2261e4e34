/- The draw of a project: spec.l20Project gives some two rows of at most 8 numbers, in memory of its own. No condition but that the code's bytes can be read. -/
import Derived.Test.YtdfcjhcnojgkiaaDraw
import Derived.Test.YtdfcjhcnojgkiaaPlace
import Derived.Test.YtdfcjhcnojgkiaaTail
namespace Go.Proofs.Ytdfcjhcnojgkiaa
open Go.RowKit
set_option linter.unusedVariables false
set_option linter.unusedSimpArgs false
structure PS (w0 : World) (B g gp : Nat) (vl va : Value) (ll la : List Int) (m : Nat) (wx : World) : Prop where
  rd : Rd wx B g m
  gr : w0.grownBy wx (some g)
  b0 : Box wx w0.heap.size 27 #[.slice none 0 0, .slice none 0 0]
  b1 : Box wx gp 27 #[vl, va]
  il : Ints wx (gp + 1) vl ll
  ia : Ints wx (gp + 1) va la
  dis : ∀ q, vl.ownBlock = some q → va.ownBlock ≠ some q
  o1 : g < w0.heap.size
  o2 : w0.heap.size < gp
section
variable {w0 wx wy wz w' : World} {B g gp m m' : Nat} {vl va v' : Value} {ll la l' : List Int}
theorem PS.pick (h : PS w0 B g gp vl va ll la m wx) (hg : wx.grownBy w' (some g)) (hr : Rd w' B g m') : PS w0 B g gp vl va ll la m' w' := by
  have := h.o1; have := h.o2
  exact ⟨hr, grown_trans' h.gr hg, h.b0.near hg h.o1, h.b1.near hg (by omega), h.il.near hg (by omega), h.ia.near hg (by omega), h.dis, h.o1, h.o2⟩
theorem PS.ext (h : PS w0 B g gp vl va ll la m wx) (hb : Below wx.heap.size wx w') : PS w0 B g gp vl va ll la m w' :=
  ⟨h.rd.ext hb, grown_ext' h.gr hb, h.b0.ext hb, h.b1.ext hb, h.il.ext hb, h.ia.ext hb, h.dis, h.o1, h.o2⟩
theorem PS.mono (h : PS w0 B g gp vl va ll la m wx) (hm : m ≤ m') : PS w0 B g gp vl va ll la m' wx := { h with rd := h.rd.mono hm }
/-- an append to the first row, and the store of the row it gave -/
theorem PS.growL (h : PS w0 B g gp vl va ll la m wx) (hg : wx.grownBy wz vl.ownBlock) (hv : Ints wz (gp + 1) v' l') (hp : v'.ownBlock = vl.ownBlock ∨ v'.ownBlock = some wx.heap.size) :
    PS w0 B g gp v' va l' la m (wz.setCell ⟨gp, 0, none⟩ v') := by
  have h1 := h.o1; have h2 := h.o2; have h5 := h.rd.lt; have h7 := h.gr.size
  have lt := h.il.lt; have lta := h.ia.lt
  refine ⟨(h.rd.grown hg (fun e => by have := lt _ e.symm; omega) (fun k hk => by have := lt k hk; omega)).set (by dsimp only; omega) (by dsimp only; omega) v',
    grown_set' (grown_high h.gr hg (fun k hk => by have := lt k hk; omega)) (by omega) v',
    (h.b0.grown hg (fun e => by have := lt _ e.symm; omega)).far (by dsimp only; omega) v',
    (h.b1.grown hg (fun e => by have := lt _ e.symm; omega)).set 0 v',
    hv.low (by dsimp only; omega) v', (h.ia.far hg (fun k hk e => h.dis k e hk)).low (by dsimp only; omega) v', fun q hq hq' => ?_, h1, h2⟩
  rcases hp with hp | hp
  · exact h.dis q (hp ▸ hq) hq'
  · rw [hp] at hq; injection hq with hq; have := lta q hq'; omega
/-- an append to the second row, and the store of the row it gave -/
theorem PS.growA (h : PS w0 B g gp vl va ll la m wx) (hg : wx.grownBy wz va.ownBlock) (hv : Ints wz (gp + 1) v' l') (hp : v'.ownBlock = va.ownBlock ∨ v'.ownBlock = some wx.heap.size) :
    PS w0 B g gp vl v' ll l' m (wz.setCell ⟨gp, 1, none⟩ v') := by
  have h1 := h.o1; have h2 := h.o2; have h5 := h.rd.lt; have h7 := h.gr.size
  have lt := h.ia.lt; have ltl := h.il.lt
  refine ⟨(h.rd.grown hg (fun e => by have := lt _ e.symm; omega) (fun k hk => by have := lt k hk; omega)).set (by dsimp only; omega) (by dsimp only; omega) v',
    grown_set' (grown_high h.gr hg (fun k hk => by have := lt k hk; omega)) (by omega) v',
    (h.b0.grown hg (fun e => by have := lt _ e.symm; omega)).far (by dsimp only; omega) v',
    (h.b1.grown hg (fun e => by have := lt _ e.symm; omega)).set 1 v',
    (h.il.far hg (fun k hk e => h.dis k hk e)).low (by dsimp only; omega) v', hv.low (by dsimp only; omega) v', fun q hq hq' => ?_, h1, h2⟩
  rcases hp with hp | hp
  · exact h.dis q hq (hp ▸ hq')
  · rw [hp] at hq'; injection hq' with hq'; have := ltl q hq; omega
theorem PS.done (h : PS w0 B g gp vl va ll la m wx) (x y : Value) (i k : Nat) :
    Ints ((wx.setCell ⟨w0.heap.size, i, none⟩ x).setCell ⟨w0.heap.size, k, none⟩ y) w0.heap.size vl ll ∧ Ints ((wx.setCell ⟨w0.heap.size, i, none⟩ x).setCell ⟨w0.heap.size, k, none⟩ y) w0.heap.size va la ∧
      w0.grownBy ((wx.setCell ⟨w0.heap.size, i, none⟩ x).setCell ⟨w0.heap.size, k, none⟩ y) (some g) ∧ Rd ((wx.setCell ⟨w0.heap.size, i, none⟩ x).setCell ⟨w0.heap.size, k, none⟩ y) B g m ∧ (∀ q, vl.ownBlock = some q → va.ownBlock ≠ some q) := by
  have h1 := h.o1; have h2 := h.o2; have h3 := h.rd.lt
  exact ⟨((h.il.low (by dsimp only; omega) _).low (by dsimp only; omega) _).base (by omega), ((h.ia.low (by dsimp only; omega) _).low (by dsimp only; omega) _).base (by omega), grown_set' (grown_set' h.gr (Nat.le_refl _) _) (Nat.le_refl _) _, (h.rd.set (by dsimp only; omega) (by dsimp only; omega) _).set (by dsimp only; omega) (by dsimp only; omega) _, h.dis⟩
end
set_option maxRecDepth 100000 in
set_option maxHeartbeats 4000000 in
theorem spec_l20Project' (B g m : Nat) (n : Int) (w : World) (h : Rd w B g m) (hm : m ≤ 100000) (hn : 0 ≤ n) :
    Calls Try.prog 60 #[.pointer (some ⟨g, 0, none⟩), .int .i64 n] w fun e w' => ∃ (v1 v2 : Value) (l t : List Int), e = .returned (.agg #[v1, v2]) ∧ Ints w' w.heap.size v1 l ∧ Ints w' w.heap.size v2 t ∧ l.length ≤ 8 ∧ t.length ≤ 8 ∧ w.grownBy w' (some g) ∧ Rd w' B g (m + 100) ∧ (∀ q, v1.ownBlock = some q → v2.ownBlock ≠ some q) := by
  have R := Lib.hid h
  have hg := h.lt
  clear h
  go_enter Try.func60, Try.ntmps60
  go_wp2_with fail
  obtain ⟨W, hW, B0, B1, hs, E⟩ := two_boxes w #[.slice none 0 0, .slice none 0 0] #[.slice none 0 0, .slice none 0 0] 27 27
  rw [← hW.out]
  obtain ⟨gp, hgp⟩ : ∃ gp, Hid (gp = w.heap.size + 1) := ⟨_, rfl⟩
  have D : Hid (PS w B g gp (.slice none 0 0) (.slice none 0 0) [] [] m W) := ⟨R.out.ext E, grown_of_ext _ E, B0, by rw [hgp.out]; exact B1, Ints.nil _ _, Ints.nil _ _, fun q hq => by simp [Value.ownBlock] at hq, hg.2, by rw [hgp.out]; omega⟩
  rw [← hgp.out]
  have hgp1 : w.heap.size < gp := by rw [hgp.out]; omega
  clear E B0 B1 R
  refine (spec_pick B g _ 6 _ D.out.rd (by omega)).mono ?_
  rintro e w1 ⟨x1, rfl, hx1, hy1, hr, hgw, -⟩
  have D := Lib.hid (D.out.pick hgw hr)
  clear hr hgw
  go_wp2_with fail
  refine (spec_pick B g _ 9 _ D.out.rd (by omega)).mono ?_
  rintro e w2 ⟨x2, rfl, hx2, hy2, hr, hgw, -⟩
  have D := Lib.hid (D.out.pick hgw hr)
  clear hr hgw
  go_wp2_with fail
  obtain ⟨K, hK⟩ := Int.eq_ofNat_of_zero_le (show 0 ≤ x1 + x2 / 8 by omega)
  have hK6 : K ≤ 6 := by omega
  rw [hK]
  clear hK hx1 hx2 hy1 hy2
  go_loopg [6] K (fun z kk wr => ∃ (i : Nat) (vl va : Value) (ll la : List Int), i ≤ 6 ∧ z = i ∧ kk = .int .i64 i ∧ Hid (ll.length + i ≤ 6) ∧ Hid (la.length + i ≤ 6) ∧ Hid (PS w B g gp vl va ll la (m + 2 + 3 * (6 - i)) wr))
  case atStart => exact ⟨K, _, _, [], [], hK6, rfl, rfl, Lib.hid (by simp; omega), Lib.hid (by simp; omega), Lib.hid (D.out.mono (by omega))⟩
  case round =>
    obtain ⟨i, vl, va, ll, la, hi, hgk, rfl, hll, hla, D⟩ := hrel
    have Hk := Lib.hid hgk
    clear hgk
    obtain ⟨al, cl, rfl, -⟩ := D.out.il.open
    obtain ⟨aa, ca, rfl, -⟩ := D.out.ia.open
    have hll6 : ll.length + i ≤ 6 := hll.out
    have hla6 : la.length + i ≤ 6 := hla.out
    by_cases hlt : 0 < i
    · go_upto_region 5 with fail
      refine wp_region_tail 14 (by kernel_rfl) (by kernel_rfl) (fun w' => w'.cell? ⟨gp, 0, none⟩ = some (Value.slice al ll.length cl) ∧ w'.cell? ⟨gp, 1, none⟩ = some (Value.slice aa la.length ca)) ?_ ?_
      · exact ⟨D.out.b1.cell0 rfl, D.out.b1.cell0 rfl⟩
      intro hHeld
      have D := Lib.hid (D.out.ext (ext_drew (ext_refl wr)))
      obtain ⟨d1, hd1⟩ : ∃ d, Hid (d = wr.drew) := ⟨_, rfl⟩
      have qd1 : wr.heap.size ≤ d1.heap.size := by rw [hd1.out]; exact Nat.le_refl _
      rw [← hd1.out] at D hHeld ⊢
      simp only [List.pop_toArray, List.dropLast]
      refine wpAnyH_take (i := 0) (v := ?_) rfl (by kernel_rfl) (by kernel_rfl) (by kernel_rfl) (fun _ _ _ h => h) (Or.inl ⟨by rfl, fun w' hS' => ?_⟩) (by assumption) ?_
      rotate_left
      · (try dsimp only at hS'); go_simp; (try rw [if_pos (by omega)]); try with_reducible rfl
      try simp only [Act.put, List.getElem_toArray, List.getElem_cons_zero, List.getElem_cons_succ, List.setIfInBounds_toArray, List.set_cons_zero, List.set_cons_succ]
      refine wpAnyH_take (i := 1) (v := ?_) rfl (by kernel_rfl) (by kernel_rfl) (by kernel_rfl) (fun _ _ _ h => h) (Or.inl ⟨by rfl, fun w' hS' => ?_⟩) (by assumption) ?_
      rotate_left
      · (try dsimp only at hS'); go_simp; (try rw [if_pos (by omega)]); try with_reducible rfl
      try simp only [Act.put, List.getElem_toArray, List.getElem_cons_zero, List.getElem_cons_succ, List.setIfInBounds_toArray, List.set_cons_zero, List.set_cons_succ]
      refine wpAnyH_take (i := 2) (v := ?_) rfl (by kernel_rfl) (by kernel_rfl) (by kernel_rfl) (fun _ _ _ h => h) (Or.inl ⟨by rfl, fun w' hS' => ?_⟩) (by assumption) ?_
      rotate_left
      · (try dsimp only at hS'); go_simp; (try rw [if_pos (by omega)]); try with_reducible rfl
      try simp only [Act.put, List.getElem_toArray, List.getElem_cons_zero, List.getElem_cons_succ, List.setIfInBounds_toArray, List.set_cons_zero, List.set_cons_succ]
      refine wpAnyH_take (i := 3) (v := ?_) rfl (by kernel_rfl) (by kernel_rfl) (by kernel_rfl) (fun _ _ _ h => h) (Or.inl ⟨by rfl, fun w' hS' => ?_⟩) (by assumption) ?_
      rotate_left
      · (try dsimp only at hS'); go_simp; (try rw [if_pos (by omega)]); try with_reducible rfl
      try simp only [Act.put, List.getElem_toArray, List.getElem_cons_zero, List.getElem_cons_succ, List.setIfInBounds_toArray, List.set_cons_zero, List.set_cons_succ]
      refine wpAnyH_take (i := 4) (v := ?_) rfl (by kernel_rfl) (by kernel_rfl) (by kernel_rfl) (fun _ _ _ h => h) (Or.inl ⟨by rfl, fun w' hS' => ?_⟩) (by assumption) ?_
      rotate_left
      · (try dsimp only at hS'); go_simp; (try rw [if_pos (by omega)]); try with_reducible rfl
      try simp only [Act.put, List.getElem_toArray, List.getElem_cons_zero, List.getElem_cons_succ, List.setIfInBounds_toArray, List.set_cons_zero, List.set_cons_succ]
      refine wpAnyH_take (i := 5) (v := ?_) rfl (by kernel_rfl) (by kernel_rfl) (by kernel_rfl) (fun _ _ _ h => h) (Or.inl ⟨by rfl, fun w' hS' => ?_⟩) (by assumption) ?_
      rotate_left
      · (try dsimp only at hS'); go_simp; (try rw [if_pos (by omega)]); try with_reducible rfl
      try simp only [Act.put, List.getElem_toArray, List.getElem_cons_zero, List.getElem_cons_succ, List.setIfInBounds_toArray, List.set_cons_zero, List.set_cons_succ]
      refine wpAnyH_take (i := 6) (v := ?_) rfl (by kernel_rfl) (by kernel_rfl) (by kernel_rfl) (fun _ _ _ h => h) (Or.inl ⟨by rfl, fun w' hS' => ?_⟩) (by assumption) ?_
      rotate_left
      · (try dsimp only at hS'); go_simp; (try rw [if_pos (by omega)]); try with_reducible rfl
      try simp only [Act.put, List.getElem_toArray, List.getElem_cons_zero, List.getElem_cons_succ, List.setIfInBounds_toArray, List.set_cons_zero, List.set_cons_succ]
      refine wpAnyH_take (i := 8) (v := ?_) rfl (by kernel_rfl) (by kernel_rfl) (by kernel_rfl) (fun _ _ _ h => h) (Or.inl ⟨by rfl, fun w' hS' => ?_⟩) (by assumption) ?_
      rotate_left
      · (try dsimp only at hS'); go_simp; (try rw [if_pos (by omega)]); try with_reducible rfl
      try simp only [Act.put, List.getElem_toArray, List.getElem_cons_zero, List.getElem_cons_succ, List.setIfInBounds_toArray, List.set_cons_zero, List.set_cons_succ]
      generalize IntKind.i64.wrap (2 ^ ll.length) = sh
      refine wpAnyH_ready (rs := [7]) (by kernel_rfl) (by simp) ?_
      refine AllReadyH.cons rfl (fun K' hK => ?_) AllReadyH.nil
      refine if_yes (by rfl) ?_
      try simp only [Act.put, List.getElem_toArray, List.getElem_cons_zero, List.getElem_cons_succ, List.setIfInBounds_toArray, List.set_cons_zero, List.set_cons_succ]
      go_simp
      refine (spec_pick B g _ _ _ D.out.rd (by omega)).mono ?_
      rintro e u2 ⟨y7, rfl, hy70, hy71, hr, hgw, -⟩
      have D := Lib.hid (D.out.pick hgw hr)
      have qu2 := hgw.size
      clear hr hgw
      go_wp2_with fail
      refine hK.out _ _ ?_ (fun hHeld => ?_)
      · exact ⟨D.out.b1.cell0 rfl, D.out.b1.cell0 rfl⟩
      clear hK K'
      try simp only [Act.put, List.setIfInBounds_toArray, List.set_cons_zero, List.set_cons_succ]
      refine wpAnyH_ready (rs := [9]) (by kernel_rfl) (by simp) ?_
      refine AllReadyH.cons rfl (fun K' hK => ?_) AllReadyH.nil
      refine if_yes (by rfl) ?_
      try simp only [Act.put, List.getElem_toArray, List.getElem_cons_zero, List.getElem_cons_succ, List.setIfInBounds_toArray, List.set_cons_zero, List.set_cons_succ]
      go_simp
      refine (spec_pick B g _ 64 _ D.out.rd (by omega)).mono ?_
      rintro e u3 ⟨y9, rfl, hy90, hy91, hr, hgw, -⟩
      have D := Lib.hid (D.out.pick hgw hr)
      have qu3 := hgw.size
      clear hr hgw
      go_wp2_with fail
      refine hK.out _ _ ?_ (fun hHeld => ?_)
      · exact ⟨D.out.b1.cell0 rfl, D.out.b1.cell0 rfl⟩
      clear hK K'
      try simp only [Act.put, List.setIfInBounds_toArray, List.set_cons_zero, List.set_cons_succ]
      refine wpAnyH_take (i := 10) (v := ?_) rfl (by kernel_rfl) (by kernel_rfl) (by kernel_rfl) (fun _ _ _ h => h) (Or.inl ⟨by rfl, fun w' hS' => ?_⟩) (by assumption) ?_
      rotate_left
      · (try dsimp only at hS'); go_simp; (try rw [if_pos (by omega)]); try with_reducible rfl
      try simp only [Act.put, List.getElem_toArray, List.getElem_cons_zero, List.getElem_cons_succ, List.setIfInBounds_toArray, List.set_cons_zero, List.set_cons_succ]
      generalize bits BinOp.and IntKind.i64 y7 y9 = bv
      refine wpAnyH_ready (rs := [11]) (by kernel_rfl) (by simp) ?_
      refine AllReadyH.cons rfl (fun K' hK => ?_) AllReadyH.nil
      refine if_yes (by rfl) ?_
      try simp only [Act.put, List.getElem_toArray, List.getElem_cons_zero, List.getElem_cons_succ, List.setIfInBounds_toArray, List.set_cons_zero, List.set_cons_succ]
      go_simp
      obtain ⟨u4, hu4, T4, hs4, hb4⟩ := one_box u3 #[.int .i64 bv] 3
      have hlit : Ints u4 0 (.slice (some ⟨u3.heap.size, 0, none⟩) 1 1) [bv] := by rw [hu4.out]; exact (Ints.lit u3 bv).base (Nat.zero_le _)
      rw [← hu4.out]
      have D := Lib.hid (D.out.ext hb4)
      have qu4 := hb4.size
      refine hK.out _ _ ?_ (fun hHeld => ?_)
      · exact ⟨D.out.b1.cell0 rfl, D.out.b1.cell0 rfl⟩
      clear hK K'
      try simp only [Act.put, List.setIfInBounds_toArray, List.set_cons_zero, List.set_cons_succ]
      refine wpAnyH_ready (rs := [12]) (by kernel_rfl) (by simp) ?_
      refine AllReadyH.cons rfl (fun K' hK => ?_) AllReadyH.nil
      refine if_yes (by rfl) ?_
      try simp only [Act.put, List.getElem_toArray, List.getElem_cons_zero, List.getElem_cons_succ, List.setIfInBounds_toArray, List.set_cons_zero, List.set_cons_succ]
      have hgp := D.out.b1.lt
      refine wp_appP _ (.tmp 19) (.tmp 29) rfl (gp + 1) (.slice aa la.length ca) (la) rfl (by have := D.out.ia; exact this) u3.heap.size [bv] 1 1 rfl hlit (by simp; omega) (by omega) ?_
      intro v' u5 hv' hg' hpl
      have b1 := D.out.b1.grown hg' (fun e => by have := D.out.ia.lt _ e.symm; omega)
      obtain ⟨an, cn, rfl, -⟩ := hv'.open
      refine hK.out _ _ ?_ (fun hHeld => ?_)
      · exact ⟨b1.cell0 rfl, b1.cell0 rfl⟩
      clear hK K'
      try simp only [Act.put, List.setIfInBounds_toArray, List.set_cons_zero, List.set_cons_succ]
      obtain ⟨rcb, rzb⟩ := b1.rules
      refine wpAnyH_take (i := 13) (v := ?_) rfl (by kernel_rfl) (by kernel_rfl) (by kernel_rfl) (fun _ _ _ h => h) (Or.inl ⟨by rfl, fun w' hS' => ?_⟩) (by assumption) ?_
      rotate_left
      · (try dsimp only at hS'); go_simp; (try rw [if_pos (by omega)]); try with_reducible rfl
      try simp only [Act.put, List.getElem_toArray, List.getElem_cons_zero, List.getElem_cons_succ, List.setIfInBounds_toArray, List.set_cons_zero, List.set_cons_succ]
      refine wpAnyH_done (by kernel_rfl) ?_ _
      refine tail_step rfl (fun K' hK => ?_)
      refine if_yes (by rfl) ?_
      try simp only [Act.put, List.getElem_toArray, List.getElem_cons_zero, List.getElem_cons_succ, List.setIfInBounds_toArray, List.set_cons_zero, List.set_cons_succ]
      go_simp
      refine hK _ _ ?_
      clear hK K'
      try simp only [Act.put, List.getElem_toArray, List.getElem_cons_zero, List.getElem_cons_succ, List.setIfInBounds_toArray, List.set_cons_zero, List.set_cons_succ]
      have D := Lib.hid (D.out.growA hg' hv' hpl)
      skip
      have he : (la ++ [bv]).length = la.length + 1 := by simp
      rw [he] at D
      clear he
      obtain ⟨wA, hwA⟩ : ∃ wA, Hid (wA = u5.setCell ⟨gp, 1, none⟩ (.slice an (la.length + 1) cn)) := ⟨_, rfl⟩
      rw [← hwA.out] at D ⊢
      clear hv' hg' hpl rcb rzb b1 hlit hHeld
      go_upto_region 6 with fail
      refine wp_region_tail 8 (by kernel_rfl) (by kernel_rfl) (fun w' => w'.cell? ⟨gp, 0, none⟩ = some (Value.slice al ll.length cl) ∧ w'.cell? ⟨gp, 1, none⟩ = some (Value.slice an (la.length + 1) cn)) ?_ ?_
      · exact ⟨D.out.b1.cell0 rfl, D.out.b1.cell0 rfl⟩
      intro hHeld
      have D := Lib.hid (D.out.ext (ext_drew (ext_refl wA)))
      obtain ⟨d6, hd6⟩ : ∃ d, Hid (d = wA.drew) := ⟨_, rfl⟩
      have qd6 : wA.heap.size ≤ d6.heap.size := by rw [hd6.out]; exact Nat.le_refl _
      rw [← hd6.out] at D hHeld ⊢
      simp only [List.pop_toArray, List.dropLast]
      refine wpAnyH_take (i := 0) (v := ?_) rfl (by kernel_rfl) (by kernel_rfl) (by kernel_rfl) (fun _ _ _ h => h) (Or.inl ⟨by rfl, fun w' hS' => ?_⟩) (by assumption) ?_
      rotate_left
      · (try dsimp only at hS'); go_simp; (try rw [if_pos (by omega)]); try with_reducible rfl
      try simp only [Act.put, List.getElem_toArray, List.getElem_cons_zero, List.getElem_cons_succ, List.setIfInBounds_toArray, List.set_cons_zero, List.set_cons_succ]
      refine wpAnyH_take (i := 1) (v := ?_) rfl (by kernel_rfl) (by kernel_rfl) (by kernel_rfl) (fun _ _ _ h => h) (Or.inl ⟨by rfl, fun w' hS' => ?_⟩) (by assumption) ?_
      rotate_left
      · (try dsimp only at hS'); go_simp; (try rw [if_pos (by omega)]); try with_reducible rfl
      try simp only [Act.put, List.getElem_toArray, List.getElem_cons_zero, List.getElem_cons_succ, List.setIfInBounds_toArray, List.set_cons_zero, List.set_cons_succ]
      refine wpAnyH_take (i := 2) (v := ?_) rfl (by kernel_rfl) (by kernel_rfl) (by kernel_rfl) (fun _ _ _ h => h) (Or.inl ⟨by rfl, fun w' hS' => ?_⟩) (by assumption) ?_
      rotate_left
      · (try dsimp only at hS'); go_simp; (try rw [if_pos (by omega)]); try with_reducible rfl
      try simp only [Act.put, List.getElem_toArray, List.getElem_cons_zero, List.getElem_cons_succ, List.setIfInBounds_toArray, List.set_cons_zero, List.set_cons_succ]
      refine wpAnyH_ready (rs := [3]) (by kernel_rfl) (by simp) ?_
      refine AllReadyH.cons rfl (fun K' hK => ?_) AllReadyH.nil
      refine if_yes (by rfl) ?_
      try simp only [Act.put, List.getElem_toArray, List.getElem_cons_zero, List.getElem_cons_succ, List.setIfInBounds_toArray, List.set_cons_zero, List.set_cons_succ]
      go_simp
      refine (spec_pick B g _ 9 _ D.out.rd (by omega)).mono ?_
      rintro e u7 ⟨z3, rfl, hz30, hz31, hr, hgw, -⟩
      have D := Lib.hid (D.out.pick hgw hr)
      have qu7 := hgw.size
      clear hr hgw
      go_wp2_with fail
      refine hK.out _ _ ?_ (fun hHeld => ?_)
      · exact ⟨D.out.b1.cell0 rfl, D.out.b1.cell0 rfl⟩
      clear hK K'
      try simp only [Act.put, List.setIfInBounds_toArray, List.set_cons_zero, List.set_cons_succ]
      refine wpAnyH_take (i := 4) (v := ?_) rfl (by kernel_rfl) (by kernel_rfl) (by kernel_rfl) (fun _ _ _ h => h) (Or.inl ⟨by rfl, fun w' hS' => ?_⟩) (by assumption) ?_
      rotate_left
      · (try dsimp only at hS'); go_simp; (try rw [if_pos (by omega)]); try with_reducible rfl
      try simp only [Act.put, List.getElem_toArray, List.getElem_cons_zero, List.getElem_cons_succ, List.setIfInBounds_toArray, List.set_cons_zero, List.set_cons_succ]
      generalize IntKind.i64.wrap (1 + z3) = lv
      refine wpAnyH_ready (rs := [5]) (by kernel_rfl) (by simp) ?_
      refine AllReadyH.cons rfl (fun K' hK => ?_) AllReadyH.nil
      refine if_yes (by rfl) ?_
      try simp only [Act.put, List.getElem_toArray, List.getElem_cons_zero, List.getElem_cons_succ, List.setIfInBounds_toArray, List.set_cons_zero, List.set_cons_succ]
      go_simp
      obtain ⟨u8, hu8, T8, hs8, hb8⟩ := one_box u7 #[.int .i64 lv] 3
      have hlit : Ints u8 0 (.slice (some ⟨u7.heap.size, 0, none⟩) 1 1) [lv] := by rw [hu8.out]; exact (Ints.lit u7 lv).base (Nat.zero_le _)
      rw [← hu8.out]
      have D := Lib.hid (D.out.ext hb8)
      have qu8 := hb8.size
      refine hK.out _ _ ?_ (fun hHeld => ?_)
      · exact ⟨D.out.b1.cell0 rfl, D.out.b1.cell0 rfl⟩
      clear hK K'
      try simp only [Act.put, List.setIfInBounds_toArray, List.set_cons_zero, List.set_cons_succ]
      refine wpAnyH_ready (rs := [6]) (by kernel_rfl) (by simp) ?_
      refine AllReadyH.cons rfl (fun K' hK => ?_) AllReadyH.nil
      refine if_yes (by rfl) ?_
      try simp only [Act.put, List.getElem_toArray, List.getElem_cons_zero, List.getElem_cons_succ, List.setIfInBounds_toArray, List.set_cons_zero, List.set_cons_succ]
      have hgp := D.out.b1.lt
      refine wp_appP _ (.tmp 33) (.tmp 37) rfl (gp + 1) (.slice al ll.length cl) (ll) rfl (by have := D.out.il; exact this) u7.heap.size [lv] 1 1 rfl hlit (by simp; omega) (by omega) ?_
      intro v' u9 hv' hg' hpl
      have b1 := D.out.b1.grown hg' (fun e => by have := D.out.il.lt _ e.symm; omega)
      obtain ⟨am, cm, rfl, -⟩ := hv'.open
      refine hK.out _ _ ?_ (fun hHeld => ?_)
      · exact ⟨b1.cell0 rfl, b1.cell0 rfl⟩
      clear hK K'
      try simp only [Act.put, List.setIfInBounds_toArray, List.set_cons_zero, List.set_cons_succ]
      obtain ⟨rcb, rzb⟩ := b1.rules
      refine wpAnyH_take (i := 7) (v := ?_) rfl (by kernel_rfl) (by kernel_rfl) (by kernel_rfl) (fun _ _ _ h => h) (Or.inl ⟨by rfl, fun w' hS' => ?_⟩) (by assumption) ?_
      rotate_left
      · (try dsimp only at hS'); go_simp; (try rw [if_pos (by omega)]); try with_reducible rfl
      try simp only [Act.put, List.getElem_toArray, List.getElem_cons_zero, List.getElem_cons_succ, List.setIfInBounds_toArray, List.set_cons_zero, List.set_cons_succ]
      refine wpAnyH_done (by kernel_rfl) ?_ _
      refine tail_step rfl (fun K' hK => ?_)
      refine if_yes (by rfl) ?_
      try simp only [Act.put, List.getElem_toArray, List.getElem_cons_zero, List.getElem_cons_succ, List.setIfInBounds_toArray, List.set_cons_zero, List.set_cons_succ]
      go_simp
      refine hK _ _ ?_
      clear hK K'
      try simp only [Act.put, List.getElem_toArray, List.getElem_cons_zero, List.getElem_cons_succ, List.setIfInBounds_toArray, List.set_cons_zero, List.set_cons_succ]
      have D := Lib.hid (D.out.growL hg' hv' hpl)
      skip
      have he : (ll ++ [lv]).length = ll.length + 1 := by simp
      rw [he] at D
      clear he
      obtain ⟨wL, hwL⟩ : ∃ wL, Hid (wL = u9.setCell ⟨gp, 0, none⟩ (.slice am (ll.length + 1) cm)) := ⟨_, rfl⟩
      rw [← hwL.out] at D ⊢
      go_wp2_with fail
      go_roundg (i - 1)
      case rel => exact ⟨i-1, _, _, ll ++ [lv], la ++ [bv], by omega, rfl, by go_num, Lib.hid (by simp; omega), Lib.hid (by simp; omega), Lib.hid (D.out.mono (by omega))⟩
      case measure => have := Hk.out; omega
    · obtain rfl : i = 0 := by omega
      go_wp2_with fail
      refine (spec_odd B g _ n _ D.out.rd (by omega) hn).mono ?_
      rintro e w16 ⟨x16, rfl, hr, hgw, -⟩
      have D := Lib.hid (D.out.pick hgw hr)
      clear hr hgw
      cases x16
      · skip
        have b0 := D.out.b0
        have b1 := D.out.b1
        obtain ⟨rc0, rz0⟩ := (b0).rules; have rl0 := (b0).lt
        obtain ⟨rc1, rz1⟩ := (b1).rules; have rl1 := (b1).lt
        go_wp2_with fail
        refine bodyPost_ret (v := .agg #[.slice al ll.length cl, .slice aa la.length ca]) (by simp [results, Try.results60, go_sem, *]) rfl ?_
        obtain ⟨F1, F2, F3, F4, F5⟩ := D.out.done (.slice al ll.length cl) (.slice aa la.length ca) 0 1
        first | exact ⟨_, _, _, _, rfl, F1, F2, by (try simp); omega, by (try simp); omega, F3, F4.mono (by omega), F5⟩ | exact ⟨_, _, rfl, _, F1, _, F2, by (try simp); omega, by (try simp); omega, F3, F4.mono (by omega), F5⟩
      · go_wp2_with fail
        refine (spec_pick B g _ 3 _ D.out.rd (by omega)).mono ?_
        rintro e w17 ⟨y17, rfl, hy17, hz17, hr, hgw, -⟩
        have D := Lib.hid (D.out.pick hgw hr)
        clear hr hgw
        have hgpl := D.out.b1.lt
        by_cases h170 : y17 = 0
        · subst h170
          have b1 := D.out.b1
          obtain ⟨rc1, rz1⟩ := (b1).rules; have rl1 := (b1).lt
          go_upto_region 16 with (at_builtin; refine wpl_appP _ rfl (.tmp 62) (.tmp 63) rfl (gp + 1) (.slice al ll.length cl) (ll) rfl (by have := (D.out.ext (ext_alloc (ext_refl w17) (.cells #[.int .i64 1] 3))).il; exact this) w17.heap.size [1] 1 1 rfl ((Ints.lit _ 1).base (Nat.zero_le _)) (by show (ll).length + 1 ≤ _; (try simp); omega) (by rw [World.size_alloc]; omega) ?_; intro v' u5 hv' hg' hpl; obtain ⟨an, cn, rfl, -⟩ := hv'.open; obtain ⟨rc5, rz5⟩ := ((D.out.ext (ext_alloc (ext_refl w17) (.cells #[.int .i64 1] 3))).b1.grown hg' (fun e => by have := (D.out.ext (ext_alloc (ext_refl w17) (.cells #[.int .i64 1] 3))).il.lt _ e.symm; omega)).rules)
          have D := Lib.hid ((D.out.ext (ext_alloc (ext_refl w17) (.cells #[.int .i64 1] 3))).growL hg' hv' hpl)
          clear rc5 rz5 rc1 rz1 rl1
          skip
          have he : (ll ++ [1]).length = ll.length + 1 := by simp
          rw [he] at D
          clear he
          obtain ⟨wM, hwM⟩ : ∃ wM, Hid (wM = u5.setCell ⟨gp, 0, none⟩ (.slice an (ll.length + 1) cn)) := ⟨_, rfl⟩
          rw [← hwM.out] at D ⊢
          clear hv' hg' hpl
          have b0 := D.out.b0
          have b1 := D.out.b1
          obtain ⟨rc0, rz0⟩ := (b0).rules; have rl0 := (b0).lt
          obtain ⟨rc1, rz1⟩ := (b1).rules; have rl1 := (b1).lt
          go_wp2_with fail
          refine bodyPost_ret (v := .agg #[.slice an (ll.length + 1) cn, .slice aa la.length ca]) (by simp [results, Try.results60, go_sem, *]) rfl ?_
          obtain ⟨F1, F2, F3, F4, F5⟩ := D.out.done (.slice an (ll.length + 1) cn) (.slice aa la.length ca) 0 1
          first | exact ⟨_, _, _, _, rfl, F1, F2, by (try simp); omega, by (try simp); omega, F3, F4.mono (by omega), F5⟩ | exact ⟨_, _, rfl, _, F1, _, F2, by (try simp); omega, by (try simp); omega, F3, F4.mono (by omega), F5⟩
        · by_cases h171 : y17 = 1
          · subst h171
            go_upto_region 14 with fail
            refine wp_region_tail 10 (by kernel_rfl) (by kernel_rfl) (fun w' => w'.cell? ⟨gp, 0, none⟩ = some (Value.slice al ll.length cl) ∧ w'.cell? ⟨gp, 1, none⟩ = some (Value.slice aa la.length ca)) ?_ ?_
            · exact ⟨D.out.b1.cell0 rfl, D.out.b1.cell0 rfl⟩
            intro hHeld
            have D := Lib.hid (D.out.ext (ext_drew (ext_refl w17)))
            obtain ⟨d, hd⟩ : ∃ d, Hid (d = w17.drew) := ⟨_, rfl⟩
            have qd : w17.heap.size ≤ d.heap.size := by rw [hd.out]; exact Nat.le_refl _
            rw [← hd.out] at D hHeld ⊢
            simp only [List.pop_toArray, List.dropLast]
            refine wpAnyH_take (i := 0) (v := ?_) rfl (by kernel_rfl) (by kernel_rfl) (by kernel_rfl) (fun _ _ _ h => h) (Or.inl ⟨by rfl, fun w' hS' => ?_⟩) (by assumption) ?_
            rotate_left
            · (try dsimp only at hS'); go_simp; (try rw [if_pos (by omega)]); try with_reducible rfl
            try simp only [Act.put, List.getElem_toArray, List.getElem_cons_zero, List.getElem_cons_succ, List.setIfInBounds_toArray, List.set_cons_zero, List.set_cons_succ]
            refine wpAnyH_take (i := 1) (v := ?_) rfl (by kernel_rfl) (by kernel_rfl) (by kernel_rfl) (fun _ _ _ h => h) (Or.inl ⟨by rfl, fun w' hS' => ?_⟩) (by assumption) ?_
            rotate_left
            · (try dsimp only at hS'); go_simp; (try rw [if_pos (by omega)]); try with_reducible rfl
            try simp only [Act.put, List.getElem_toArray, List.getElem_cons_zero, List.getElem_cons_succ, List.setIfInBounds_toArray, List.set_cons_zero, List.set_cons_succ]
            refine wpAnyH_take (i := 3) (v := ?_) rfl (by kernel_rfl) (by kernel_rfl) (by kernel_rfl) (fun _ _ _ h => h) (Or.inl ⟨by rfl, fun w' hS' => ?_⟩) (by assumption) ?_
            rotate_left
            · (try dsimp only at hS'); go_simp; (try rw [if_pos (by omega)]); try with_reducible rfl
            try simp only [Act.put, List.getElem_toArray, List.getElem_cons_zero, List.getElem_cons_succ, List.setIfInBounds_toArray, List.set_cons_zero, List.set_cons_succ]
            refine wpAnyH_ready (rs := [2, 4]) (by kernel_rfl) (by simp) ?_
            refine AllReadyH.cons rfl (fun K' hK => ?_) (AllReadyH.cons rfl (fun K' hK => ?_) AllReadyH.nil)
            · refine if_yes (by rfl) ?_
              try simp only [Act.put, List.setIfInBounds_toArray, List.set_cons_zero, List.set_cons_succ]
              go_simp
              obtain ⟨uL, huL, L0, hsL, hbL⟩ := one_box d #[.int .i64 0, .int .i64 21] 3
              rw [← huL.out]
              have D := Lib.hid (D.out.ext hbL)
              have quL := hbL.size
              have hgL : g < d.heap.size := by have := D.out.o1; have := D.out.o2; have := hgpl; omega
              refine hK.out _ _ ?_ (fun hHeld => ?_)
              · exact ⟨D.out.b1.cell0 rfl, D.out.b1.cell0 rfl⟩
              clear hK K'
              try simp only [Act.put, List.setIfInBounds_toArray, List.set_cons_zero, List.set_cons_succ]
              refine wpAnyH_ready (rs := [4]) (by kernel_rfl) (by simp) ?_
              refine AllReadyH.cons rfl (fun K' hK => ?_) AllReadyH.nil
              refine if_yes (by rfl) ?_
              try simp only [Act.put, List.getElem_toArray, List.getElem_cons_zero, List.getElem_cons_succ, List.setIfInBounds_toArray, List.set_cons_zero, List.set_cons_succ]
              go_simp
              refine (spec_pick B g _ 2 _ D.out.rd (by omega)).mono ?_
              rintro e up ⟨y, rfl, hy0, hy1, hr, hgw, -⟩
              have D := Lib.hid (D.out.pick hgw hr)
              have qup := hgw.size
              have L0 := L0.near hgw hgL
              clear hr hgw
              go_wp2_with fail
              refine hK.out _ _ ?_ (fun hHeld => ?_)
              · exact ⟨D.out.b1.cell0 rfl, D.out.b1.cell0 rfl⟩
              clear hK K'
              try simp only [Act.put, List.setIfInBounds_toArray, List.set_cons_zero, List.set_cons_succ]
              by_cases hy : y = 0
              · subst hy
                refine wpAnyH_take (i := 5) (v := ?_) rfl (by kernel_rfl) (by kernel_rfl) (by kernel_rfl) (fun _ _ _ h => h) (Or.inl ⟨by rfl, fun w' hS' => ?_⟩) (by assumption) ?_
                rotate_left
                · (try dsimp only at hS'); go_simp; (try rw [if_pos (by omega)]); try with_reducible rfl
                try simp only [Act.put, List.getElem_toArray, List.getElem_cons_zero, List.getElem_cons_succ, List.setIfInBounds_toArray, List.set_cons_zero, List.set_cons_succ]
                obtain ⟨rcL, rzL⟩ := (L0).rules; have rlL := (L0).lt
                refine wpAnyH_ready (rs := [6]) (by kernel_rfl) (by simp) ?_
                refine AllReadyH.cons rfl (fun K' hK => ?_) AllReadyH.nil
                refine if_yes (by rfl) ?_
                try simp only [Act.put, List.getElem_toArray, List.getElem_cons_zero, List.getElem_cons_succ, List.setIfInBounds_toArray, List.set_cons_zero, List.set_cons_succ]
                go_simp
                refine hK.out _ _ ?_ (fun hHeld => ?_)
                · exact ⟨D.out.b1.cell0 rfl, D.out.b1.cell0 rfl⟩
                clear hK K' rcL rzL rlL
                try simp only [Act.put, List.setIfInBounds_toArray, List.set_cons_zero, List.set_cons_succ]
                refine wpAnyH_ready (rs := [7]) (by kernel_rfl) (by simp) ?_
                refine AllReadyH.cons rfl (fun K' hK => ?_) AllReadyH.nil
                refine if_yes (by rfl) ?_
                try simp only [Act.put, List.getElem_toArray, List.getElem_cons_zero, List.getElem_cons_succ, List.setIfInBounds_toArray, List.set_cons_zero, List.set_cons_succ]
                go_simp
                obtain ⟨uv, huv, Tv, hsv, hbv⟩ := one_box up #[.int .i64 0] 3
                have hlit : Ints uv 0 (.slice (some ⟨up.heap.size, 0, none⟩) 1 1) [0] := by rw [huv.out]; exact (Ints.lit up 0).base (Nat.zero_le _)
                rw [← huv.out]
                have D := Lib.hid (D.out.ext hbv)
                have quv := hbv.size
                refine hK.out _ _ ?_ (fun hHeld => ?_)
                · exact ⟨D.out.b1.cell0 rfl, D.out.b1.cell0 rfl⟩
                clear hK K'
                try simp only [Act.put, List.setIfInBounds_toArray, List.set_cons_zero, List.set_cons_succ]
                refine wpAnyH_ready (rs := [8]) (by kernel_rfl) (by simp) ?_
                refine AllReadyH.cons rfl (fun K' hK => ?_) AllReadyH.nil
                refine if_yes (by rfl) ?_
                try simp only [Act.put, List.getElem_toArray, List.getElem_cons_zero, List.getElem_cons_succ, List.setIfInBounds_toArray, List.set_cons_zero, List.set_cons_succ]
                have hgp9 := D.out.b1.lt
                refine wp_appP _ (.tmp 69) (.tmp 75) rfl (gp + 1) (.slice al ll.length cl) ll rfl (by have := D.out.il; exact this) up.heap.size [0] 1 1 rfl hlit (by show ll.length + 1 ≤ _; omega) (by omega) ?_
                intro v' u9 hv' hg' hpl
                have b1 := D.out.b1.grown hg' (fun e => by have := D.out.il.lt _ e.symm; omega)
                obtain ⟨an, cn, rfl, -⟩ := hv'.open
                refine hK.out _ _ ?_ (fun hHeld => ?_)
                · exact ⟨b1.cell0 rfl, b1.cell0 rfl⟩
                clear hK K'
                try simp only [Act.put, List.setIfInBounds_toArray, List.set_cons_zero, List.set_cons_succ]
                obtain ⟨rcb, rzb⟩ := b1.rules
                refine wpAnyH_take (i := 9) (v := ?_) rfl (by kernel_rfl) (by kernel_rfl) (by kernel_rfl) (fun _ _ _ h => h) (Or.inl ⟨by rfl, fun w' hS' => ?_⟩) (by assumption) ?_
                rotate_left
                · (try dsimp only at hS'); go_simp; (try rw [if_pos (by omega)]); try with_reducible rfl
                try simp only [Act.put, List.getElem_toArray, List.getElem_cons_zero, List.getElem_cons_succ, List.setIfInBounds_toArray, List.set_cons_zero, List.set_cons_succ]
                refine wpAnyH_done (by kernel_rfl) ?_ _
                refine tail_step rfl (fun K' hK => ?_)
                refine if_yes (by rfl) ?_
                try simp only [Act.put, List.getElem_toArray, List.getElem_cons_zero, List.getElem_cons_succ, List.setIfInBounds_toArray, List.set_cons_zero, List.set_cons_succ]
                go_simp
                refine hK _ _ ?_
                clear hK K'
                try simp only [Act.put, List.getElem_toArray, List.getElem_cons_zero, List.getElem_cons_succ, List.setIfInBounds_toArray, List.set_cons_zero, List.set_cons_succ]
                have D := Lib.hid (D.out.growL hg' hv' hpl)
                skip
                have he : (ll ++ [0]).length = ll.length + 1 := by simp
                rw [he] at D
                clear he
                obtain ⟨wN, hwN⟩ : ∃ wN, Hid (wN = u9.setCell ⟨gp, 0, none⟩ (.slice an (ll.length + 1) cn)) := ⟨_, rfl⟩
                rw [← hwN.out] at D ⊢
                clear hv' hg' hpl rcb rzb b1 hlit hHeld
                have hgpl := D.out.b1.lt
                have b1 := D.out.b1
                obtain ⟨rc1, rz1⟩ := (b1).rules; have rl1 := (b1).lt
                go_upto_region 16 with (at_builtin; refine wpl_appP _ rfl (.tmp 79) (.tmp 80) rfl (gp + 1) (.slice aa la.length ca) (la) rfl (by have := (D.out.ext (ext_alloc (ext_refl wN) (.cells #[.int .i64 0] 3))).ia; exact this) wN.heap.size [0] 1 1 rfl ((Ints.lit _ 0).base (Nat.zero_le _)) (by show (la).length + 1 ≤ _; (try simp); omega) (by rw [World.size_alloc]; omega) ?_; intro v' u5 hv' hg' hpl; obtain ⟨am, cm, rfl, -⟩ := hv'.open; obtain ⟨rc5, rz5⟩ := ((D.out.ext (ext_alloc (ext_refl wN) (.cells #[.int .i64 0] 3))).b1.grown hg' (fun e => by have := (D.out.ext (ext_alloc (ext_refl wN) (.cells #[.int .i64 0] 3))).ia.lt _ e.symm; omega)).rules)
                have D := Lib.hid ((D.out.ext (ext_alloc (ext_refl wN) (.cells #[.int .i64 0] 3))).growA hg' hv' hpl)
                clear rc5 rz5 rc1 rz1 rl1
                skip
                have he : (la ++ [0]).length = la.length + 1 := by simp
                rw [he] at D
                clear he
                obtain ⟨wM, hwM⟩ : ∃ wM, Hid (wM = u5.setCell ⟨gp, 1, none⟩ (.slice am (la.length + 1) cm)) := ⟨_, rfl⟩
                rw [← hwM.out] at D ⊢
                clear hv' hg' hpl
                have b0 := D.out.b0
                have b1 := D.out.b1
                obtain ⟨rc0, rz0⟩ := (b0).rules; have rl0 := (b0).lt
                obtain ⟨rc1, rz1⟩ := (b1).rules; have rl1 := (b1).lt
                go_wp2_with fail
                refine bodyPost_ret (v := .agg #[.slice an (ll.length + 1) cn, .slice am (la.length + 1) cm]) (by simp [results, Try.results60, go_sem, *]) rfl ?_
                obtain ⟨F1, F2, F3, F4, F5⟩ := D.out.done (.slice an (ll.length + 1) cn) (.slice am (la.length + 1) cm) 0 1
                first | exact ⟨_, _, _, _, rfl, F1, F2, by (try simp); omega, by (try simp); omega, F3, F4.mono (by omega), F5⟩ | exact ⟨_, _, rfl, _, F1, _, F2, by (try simp); omega, by (try simp); omega, F3, F4.mono (by omega), F5⟩
              · obtain rfl : y = 1 := by omega
                refine wpAnyH_take (i := 5) (v := ?_) rfl (by kernel_rfl) (by kernel_rfl) (by kernel_rfl) (fun _ _ _ h => h) (Or.inl ⟨by rfl, fun w' hS' => ?_⟩) (by assumption) ?_
                rotate_left
                · (try dsimp only at hS'); go_simp; (try rw [if_pos (by omega)]); try with_reducible rfl
                try simp only [Act.put, List.getElem_toArray, List.getElem_cons_zero, List.getElem_cons_succ, List.setIfInBounds_toArray, List.set_cons_zero, List.set_cons_succ]
                obtain ⟨rcL, rzL⟩ := (L0).rules; have rlL := (L0).lt
                refine wpAnyH_ready (rs := [6]) (by kernel_rfl) (by simp) ?_
                refine AllReadyH.cons rfl (fun K' hK => ?_) AllReadyH.nil
                refine if_yes (by rfl) ?_
                try simp only [Act.put, List.getElem_toArray, List.getElem_cons_zero, List.getElem_cons_succ, List.setIfInBounds_toArray, List.set_cons_zero, List.set_cons_succ]
                go_simp
                refine hK.out _ _ ?_ (fun hHeld => ?_)
                · exact ⟨D.out.b1.cell0 rfl, D.out.b1.cell0 rfl⟩
                clear hK K' rcL rzL rlL
                try simp only [Act.put, List.setIfInBounds_toArray, List.set_cons_zero, List.set_cons_succ]
                refine wpAnyH_ready (rs := [7]) (by kernel_rfl) (by simp) ?_
                refine AllReadyH.cons rfl (fun K' hK => ?_) AllReadyH.nil
                refine if_yes (by rfl) ?_
                try simp only [Act.put, List.getElem_toArray, List.getElem_cons_zero, List.getElem_cons_succ, List.setIfInBounds_toArray, List.set_cons_zero, List.set_cons_succ]
                go_simp
                obtain ⟨uv, huv, Tv, hsv, hbv⟩ := one_box up #[.int .i64 21] 3
                have hlit : Ints uv 0 (.slice (some ⟨up.heap.size, 0, none⟩) 1 1) [21] := by rw [huv.out]; exact (Ints.lit up 21).base (Nat.zero_le _)
                rw [← huv.out]
                have D := Lib.hid (D.out.ext hbv)
                have quv := hbv.size
                refine hK.out _ _ ?_ (fun hHeld => ?_)
                · exact ⟨D.out.b1.cell0 rfl, D.out.b1.cell0 rfl⟩
                clear hK K'
                try simp only [Act.put, List.setIfInBounds_toArray, List.set_cons_zero, List.set_cons_succ]
                refine wpAnyH_ready (rs := [8]) (by kernel_rfl) (by simp) ?_
                refine AllReadyH.cons rfl (fun K' hK => ?_) AllReadyH.nil
                refine if_yes (by rfl) ?_
                try simp only [Act.put, List.getElem_toArray, List.getElem_cons_zero, List.getElem_cons_succ, List.setIfInBounds_toArray, List.set_cons_zero, List.set_cons_succ]
                have hgp9 := D.out.b1.lt
                refine wp_appP _ (.tmp 69) (.tmp 75) rfl (gp + 1) (.slice al ll.length cl) ll rfl (by have := D.out.il; exact this) up.heap.size [21] 1 1 rfl hlit (by show ll.length + 1 ≤ _; omega) (by omega) ?_
                intro v' u9 hv' hg' hpl
                have b1 := D.out.b1.grown hg' (fun e => by have := D.out.il.lt _ e.symm; omega)
                obtain ⟨an, cn, rfl, -⟩ := hv'.open
                refine hK.out _ _ ?_ (fun hHeld => ?_)
                · exact ⟨b1.cell0 rfl, b1.cell0 rfl⟩
                clear hK K'
                try simp only [Act.put, List.setIfInBounds_toArray, List.set_cons_zero, List.set_cons_succ]
                obtain ⟨rcb, rzb⟩ := b1.rules
                refine wpAnyH_take (i := 9) (v := ?_) rfl (by kernel_rfl) (by kernel_rfl) (by kernel_rfl) (fun _ _ _ h => h) (Or.inl ⟨by rfl, fun w' hS' => ?_⟩) (by assumption) ?_
                rotate_left
                · (try dsimp only at hS'); go_simp; (try rw [if_pos (by omega)]); try with_reducible rfl
                try simp only [Act.put, List.getElem_toArray, List.getElem_cons_zero, List.getElem_cons_succ, List.setIfInBounds_toArray, List.set_cons_zero, List.set_cons_succ]
                refine wpAnyH_done (by kernel_rfl) ?_ _
                refine tail_step rfl (fun K' hK => ?_)
                refine if_yes (by rfl) ?_
                try simp only [Act.put, List.getElem_toArray, List.getElem_cons_zero, List.getElem_cons_succ, List.setIfInBounds_toArray, List.set_cons_zero, List.set_cons_succ]
                go_simp
                refine hK _ _ ?_
                clear hK K'
                try simp only [Act.put, List.getElem_toArray, List.getElem_cons_zero, List.getElem_cons_succ, List.setIfInBounds_toArray, List.set_cons_zero, List.set_cons_succ]
                have D := Lib.hid (D.out.growL hg' hv' hpl)
                skip
                have he : (ll ++ [21]).length = ll.length + 1 := by simp
                rw [he] at D
                clear he
                obtain ⟨wN, hwN⟩ : ∃ wN, Hid (wN = u9.setCell ⟨gp, 0, none⟩ (.slice an (ll.length + 1) cn)) := ⟨_, rfl⟩
                rw [← hwN.out] at D ⊢
                clear hv' hg' hpl rcb rzb b1 hlit hHeld
                have hgpl := D.out.b1.lt
                have b1 := D.out.b1
                obtain ⟨rc1, rz1⟩ := (b1).rules; have rl1 := (b1).lt
                go_upto_region 16 with (at_builtin; refine wpl_appP _ rfl (.tmp 79) (.tmp 80) rfl (gp + 1) (.slice aa la.length ca) (la) rfl (by have := (D.out.ext (ext_alloc (ext_refl wN) (.cells #[.int .i64 0] 3))).ia; exact this) wN.heap.size [0] 1 1 rfl ((Ints.lit _ 0).base (Nat.zero_le _)) (by show (la).length + 1 ≤ _; (try simp); omega) (by rw [World.size_alloc]; omega) ?_; intro v' u5 hv' hg' hpl; obtain ⟨am, cm, rfl, -⟩ := hv'.open; obtain ⟨rc5, rz5⟩ := ((D.out.ext (ext_alloc (ext_refl wN) (.cells #[.int .i64 0] 3))).b1.grown hg' (fun e => by have := (D.out.ext (ext_alloc (ext_refl wN) (.cells #[.int .i64 0] 3))).ia.lt _ e.symm; omega)).rules)
                have D := Lib.hid ((D.out.ext (ext_alloc (ext_refl wN) (.cells #[.int .i64 0] 3))).growA hg' hv' hpl)
                clear rc5 rz5 rc1 rz1 rl1
                skip
                have he : (la ++ [0]).length = la.length + 1 := by simp
                rw [he] at D
                clear he
                obtain ⟨wM, hwM⟩ : ∃ wM, Hid (wM = u5.setCell ⟨gp, 1, none⟩ (.slice am (la.length + 1) cm)) := ⟨_, rfl⟩
                rw [← hwM.out] at D ⊢
                clear hv' hg' hpl
                have b0 := D.out.b0
                have b1 := D.out.b1
                obtain ⟨rc0, rz0⟩ := (b0).rules; have rl0 := (b0).lt
                obtain ⟨rc1, rz1⟩ := (b1).rules; have rl1 := (b1).lt
                go_wp2_with fail
                refine bodyPost_ret (v := .agg #[.slice an (ll.length + 1) cn, .slice am (la.length + 1) cm]) (by simp [results, Try.results60, go_sem, *]) rfl ?_
                obtain ⟨F1, F2, F3, F4, F5⟩ := D.out.done (.slice an (ll.length + 1) cn) (.slice am (la.length + 1) cm) 0 1
                first | exact ⟨_, _, _, _, rfl, F1, F2, by (try simp); omega, by (try simp); omega, F3, F4.mono (by omega), F5⟩ | exact ⟨_, _, rfl, _, F1, _, F2, by (try simp); omega, by (try simp); omega, F3, F4.mono (by omega), F5⟩
            · refine if_yes (by rfl) ?_
              try simp only [Act.put, List.setIfInBounds_toArray, List.set_cons_zero, List.set_cons_succ]
              go_simp
              refine (spec_pick B g _ 2 _ D.out.rd (by omega)).mono ?_
              rintro e up ⟨y, rfl, hy0, hy1, hr, hgw, -⟩
              have D := Lib.hid (D.out.pick hgw hr)
              have qup := hgw.size
              clear hr hgw
              go_wp2_with fail
              refine hK.out _ _ ?_ (fun hHeld => ?_)
              · exact ⟨D.out.b1.cell0 rfl, D.out.b1.cell0 rfl⟩
              clear hK K'
              try simp only [Act.put, List.setIfInBounds_toArray, List.set_cons_zero, List.set_cons_succ]
              refine wpAnyH_ready (rs := [2]) (by kernel_rfl) (by simp) ?_
              refine AllReadyH.cons rfl (fun K' hK => ?_) AllReadyH.nil
              refine if_yes (by rfl) ?_
              try simp only [Act.put, List.getElem_toArray, List.getElem_cons_zero, List.getElem_cons_succ, List.setIfInBounds_toArray, List.set_cons_zero, List.set_cons_succ]
              go_simp
              obtain ⟨uL, huL, L0, hsL, hbL⟩ := one_box up #[.int .i64 0, .int .i64 21] 3
              rw [← huL.out]
              have D := Lib.hid (D.out.ext hbL)
              have quL := hbL.size
              have hgL : g < up.heap.size := by have := D.out.o1; have := D.out.o2; have := hgpl; omega
              refine hK.out _ _ ?_ (fun hHeld => ?_)
              · exact ⟨D.out.b1.cell0 rfl, D.out.b1.cell0 rfl⟩
              clear hK K'
              try simp only [Act.put, List.setIfInBounds_toArray, List.set_cons_zero, List.set_cons_succ]
              by_cases hy : y = 0
              · subst hy
                refine wpAnyH_take (i := 5) (v := ?_) rfl (by kernel_rfl) (by kernel_rfl) (by kernel_rfl) (fun _ _ _ h => h) (Or.inl ⟨by rfl, fun w' hS' => ?_⟩) (by assumption) ?_
                rotate_left
                · (try dsimp only at hS'); go_simp; (try rw [if_pos (by omega)]); try with_reducible rfl
                try simp only [Act.put, List.getElem_toArray, List.getElem_cons_zero, List.getElem_cons_succ, List.setIfInBounds_toArray, List.set_cons_zero, List.set_cons_succ]
                obtain ⟨rcL, rzL⟩ := (L0).rules; have rlL := (L0).lt
                refine wpAnyH_ready (rs := [6]) (by kernel_rfl) (by simp) ?_
                refine AllReadyH.cons rfl (fun K' hK => ?_) AllReadyH.nil
                refine if_yes (by rfl) ?_
                try simp only [Act.put, List.getElem_toArray, List.getElem_cons_zero, List.getElem_cons_succ, List.setIfInBounds_toArray, List.set_cons_zero, List.set_cons_succ]
                go_simp
                refine hK.out _ _ ?_ (fun hHeld => ?_)
                · exact ⟨D.out.b1.cell0 rfl, D.out.b1.cell0 rfl⟩
                clear hK K' rcL rzL rlL
                try simp only [Act.put, List.setIfInBounds_toArray, List.set_cons_zero, List.set_cons_succ]
                refine wpAnyH_ready (rs := [7]) (by kernel_rfl) (by simp) ?_
                refine AllReadyH.cons rfl (fun K' hK => ?_) AllReadyH.nil
                refine if_yes (by rfl) ?_
                try simp only [Act.put, List.getElem_toArray, List.getElem_cons_zero, List.getElem_cons_succ, List.setIfInBounds_toArray, List.set_cons_zero, List.set_cons_succ]
                go_simp
                obtain ⟨uv, huv, Tv, hsv, hbv⟩ := one_box uL #[.int .i64 0] 3
                have hlit : Ints uv 0 (.slice (some ⟨uL.heap.size, 0, none⟩) 1 1) [0] := by rw [huv.out]; exact (Ints.lit uL 0).base (Nat.zero_le _)
                rw [← huv.out]
                have D := Lib.hid (D.out.ext hbv)
                have quv := hbv.size
                refine hK.out _ _ ?_ (fun hHeld => ?_)
                · exact ⟨D.out.b1.cell0 rfl, D.out.b1.cell0 rfl⟩
                clear hK K'
                try simp only [Act.put, List.setIfInBounds_toArray, List.set_cons_zero, List.set_cons_succ]
                refine wpAnyH_ready (rs := [8]) (by kernel_rfl) (by simp) ?_
                refine AllReadyH.cons rfl (fun K' hK => ?_) AllReadyH.nil
                refine if_yes (by rfl) ?_
                try simp only [Act.put, List.getElem_toArray, List.getElem_cons_zero, List.getElem_cons_succ, List.setIfInBounds_toArray, List.set_cons_zero, List.set_cons_succ]
                have hgp9 := D.out.b1.lt
                refine wp_appP _ (.tmp 69) (.tmp 75) rfl (gp + 1) (.slice al ll.length cl) ll rfl (by have := D.out.il; exact this) uL.heap.size [0] 1 1 rfl hlit (by show ll.length + 1 ≤ _; omega) (by omega) ?_
                intro v' u9 hv' hg' hpl
                have b1 := D.out.b1.grown hg' (fun e => by have := D.out.il.lt _ e.symm; omega)
                obtain ⟨an, cn, rfl, -⟩ := hv'.open
                refine hK.out _ _ ?_ (fun hHeld => ?_)
                · exact ⟨b1.cell0 rfl, b1.cell0 rfl⟩
                clear hK K'
                try simp only [Act.put, List.setIfInBounds_toArray, List.set_cons_zero, List.set_cons_succ]
                obtain ⟨rcb, rzb⟩ := b1.rules
                refine wpAnyH_take (i := 9) (v := ?_) rfl (by kernel_rfl) (by kernel_rfl) (by kernel_rfl) (fun _ _ _ h => h) (Or.inl ⟨by rfl, fun w' hS' => ?_⟩) (by assumption) ?_
                rotate_left
                · (try dsimp only at hS'); go_simp; (try rw [if_pos (by omega)]); try with_reducible rfl
                try simp only [Act.put, List.getElem_toArray, List.getElem_cons_zero, List.getElem_cons_succ, List.setIfInBounds_toArray, List.set_cons_zero, List.set_cons_succ]
                refine wpAnyH_done (by kernel_rfl) ?_ _
                refine tail_step rfl (fun K' hK => ?_)
                refine if_yes (by rfl) ?_
                try simp only [Act.put, List.getElem_toArray, List.getElem_cons_zero, List.getElem_cons_succ, List.setIfInBounds_toArray, List.set_cons_zero, List.set_cons_succ]
                go_simp
                refine hK _ _ ?_
                clear hK K'
                try simp only [Act.put, List.getElem_toArray, List.getElem_cons_zero, List.getElem_cons_succ, List.setIfInBounds_toArray, List.set_cons_zero, List.set_cons_succ]
                have D := Lib.hid (D.out.growL hg' hv' hpl)
                skip
                have he : (ll ++ [0]).length = ll.length + 1 := by simp
                rw [he] at D
                clear he
                obtain ⟨wN, hwN⟩ : ∃ wN, Hid (wN = u9.setCell ⟨gp, 0, none⟩ (.slice an (ll.length + 1) cn)) := ⟨_, rfl⟩
                rw [← hwN.out] at D ⊢
                clear hv' hg' hpl rcb rzb b1 hlit hHeld
                have hgpl := D.out.b1.lt
                have b1 := D.out.b1
                obtain ⟨rc1, rz1⟩ := (b1).rules; have rl1 := (b1).lt
                go_upto_region 16 with (at_builtin; refine wpl_appP _ rfl (.tmp 79) (.tmp 80) rfl (gp + 1) (.slice aa la.length ca) (la) rfl (by have := (D.out.ext (ext_alloc (ext_refl wN) (.cells #[.int .i64 0] 3))).ia; exact this) wN.heap.size [0] 1 1 rfl ((Ints.lit _ 0).base (Nat.zero_le _)) (by show (la).length + 1 ≤ _; (try simp); omega) (by rw [World.size_alloc]; omega) ?_; intro v' u5 hv' hg' hpl; obtain ⟨am, cm, rfl, -⟩ := hv'.open; obtain ⟨rc5, rz5⟩ := ((D.out.ext (ext_alloc (ext_refl wN) (.cells #[.int .i64 0] 3))).b1.grown hg' (fun e => by have := (D.out.ext (ext_alloc (ext_refl wN) (.cells #[.int .i64 0] 3))).ia.lt _ e.symm; omega)).rules)
                have D := Lib.hid ((D.out.ext (ext_alloc (ext_refl wN) (.cells #[.int .i64 0] 3))).growA hg' hv' hpl)
                clear rc5 rz5 rc1 rz1 rl1
                skip
                have he : (la ++ [0]).length = la.length + 1 := by simp
                rw [he] at D
                clear he
                obtain ⟨wM, hwM⟩ : ∃ wM, Hid (wM = u5.setCell ⟨gp, 1, none⟩ (.slice am (la.length + 1) cm)) := ⟨_, rfl⟩
                rw [← hwM.out] at D ⊢
                clear hv' hg' hpl
                have b0 := D.out.b0
                have b1 := D.out.b1
                obtain ⟨rc0, rz0⟩ := (b0).rules; have rl0 := (b0).lt
                obtain ⟨rc1, rz1⟩ := (b1).rules; have rl1 := (b1).lt
                go_wp2_with fail
                refine bodyPost_ret (v := .agg #[.slice an (ll.length + 1) cn, .slice am (la.length + 1) cm]) (by simp [results, Try.results60, go_sem, *]) rfl ?_
                obtain ⟨F1, F2, F3, F4, F5⟩ := D.out.done (.slice an (ll.length + 1) cn) (.slice am (la.length + 1) cm) 0 1
                first | exact ⟨_, _, _, _, rfl, F1, F2, by (try simp); omega, by (try simp); omega, F3, F4.mono (by omega), F5⟩ | exact ⟨_, _, rfl, _, F1, _, F2, by (try simp); omega, by (try simp); omega, F3, F4.mono (by omega), F5⟩
              · obtain rfl : y = 1 := by omega
                refine wpAnyH_take (i := 5) (v := ?_) rfl (by kernel_rfl) (by kernel_rfl) (by kernel_rfl) (fun _ _ _ h => h) (Or.inl ⟨by rfl, fun w' hS' => ?_⟩) (by assumption) ?_
                rotate_left
                · (try dsimp only at hS'); go_simp; (try rw [if_pos (by omega)]); try with_reducible rfl
                try simp only [Act.put, List.getElem_toArray, List.getElem_cons_zero, List.getElem_cons_succ, List.setIfInBounds_toArray, List.set_cons_zero, List.set_cons_succ]
                obtain ⟨rcL, rzL⟩ := (L0).rules; have rlL := (L0).lt
                refine wpAnyH_ready (rs := [6]) (by kernel_rfl) (by simp) ?_
                refine AllReadyH.cons rfl (fun K' hK => ?_) AllReadyH.nil
                refine if_yes (by rfl) ?_
                try simp only [Act.put, List.getElem_toArray, List.getElem_cons_zero, List.getElem_cons_succ, List.setIfInBounds_toArray, List.set_cons_zero, List.set_cons_succ]
                go_simp
                refine hK.out _ _ ?_ (fun hHeld => ?_)
                · exact ⟨D.out.b1.cell0 rfl, D.out.b1.cell0 rfl⟩
                clear hK K' rcL rzL rlL
                try simp only [Act.put, List.setIfInBounds_toArray, List.set_cons_zero, List.set_cons_succ]
                refine wpAnyH_ready (rs := [7]) (by kernel_rfl) (by simp) ?_
                refine AllReadyH.cons rfl (fun K' hK => ?_) AllReadyH.nil
                refine if_yes (by rfl) ?_
                try simp only [Act.put, List.getElem_toArray, List.getElem_cons_zero, List.getElem_cons_succ, List.setIfInBounds_toArray, List.set_cons_zero, List.set_cons_succ]
                go_simp
                obtain ⟨uv, huv, Tv, hsv, hbv⟩ := one_box uL #[.int .i64 21] 3
                have hlit : Ints uv 0 (.slice (some ⟨uL.heap.size, 0, none⟩) 1 1) [21] := by rw [huv.out]; exact (Ints.lit uL 21).base (Nat.zero_le _)
                rw [← huv.out]
                have D := Lib.hid (D.out.ext hbv)
                have quv := hbv.size
                refine hK.out _ _ ?_ (fun hHeld => ?_)
                · exact ⟨D.out.b1.cell0 rfl, D.out.b1.cell0 rfl⟩
                clear hK K'
                try simp only [Act.put, List.setIfInBounds_toArray, List.set_cons_zero, List.set_cons_succ]
                refine wpAnyH_ready (rs := [8]) (by kernel_rfl) (by simp) ?_
                refine AllReadyH.cons rfl (fun K' hK => ?_) AllReadyH.nil
                refine if_yes (by rfl) ?_
                try simp only [Act.put, List.getElem_toArray, List.getElem_cons_zero, List.getElem_cons_succ, List.setIfInBounds_toArray, List.set_cons_zero, List.set_cons_succ]
                have hgp9 := D.out.b1.lt
                refine wp_appP _ (.tmp 69) (.tmp 75) rfl (gp + 1) (.slice al ll.length cl) ll rfl (by have := D.out.il; exact this) uL.heap.size [21] 1 1 rfl hlit (by show ll.length + 1 ≤ _; omega) (by omega) ?_
                intro v' u9 hv' hg' hpl
                have b1 := D.out.b1.grown hg' (fun e => by have := D.out.il.lt _ e.symm; omega)
                obtain ⟨an, cn, rfl, -⟩ := hv'.open
                refine hK.out _ _ ?_ (fun hHeld => ?_)
                · exact ⟨b1.cell0 rfl, b1.cell0 rfl⟩
                clear hK K'
                try simp only [Act.put, List.setIfInBounds_toArray, List.set_cons_zero, List.set_cons_succ]
                obtain ⟨rcb, rzb⟩ := b1.rules
                refine wpAnyH_take (i := 9) (v := ?_) rfl (by kernel_rfl) (by kernel_rfl) (by kernel_rfl) (fun _ _ _ h => h) (Or.inl ⟨by rfl, fun w' hS' => ?_⟩) (by assumption) ?_
                rotate_left
                · (try dsimp only at hS'); go_simp; (try rw [if_pos (by omega)]); try with_reducible rfl
                try simp only [Act.put, List.getElem_toArray, List.getElem_cons_zero, List.getElem_cons_succ, List.setIfInBounds_toArray, List.set_cons_zero, List.set_cons_succ]
                refine wpAnyH_done (by kernel_rfl) ?_ _
                refine tail_step rfl (fun K' hK => ?_)
                refine if_yes (by rfl) ?_
                try simp only [Act.put, List.getElem_toArray, List.getElem_cons_zero, List.getElem_cons_succ, List.setIfInBounds_toArray, List.set_cons_zero, List.set_cons_succ]
                go_simp
                refine hK _ _ ?_
                clear hK K'
                try simp only [Act.put, List.getElem_toArray, List.getElem_cons_zero, List.getElem_cons_succ, List.setIfInBounds_toArray, List.set_cons_zero, List.set_cons_succ]
                have D := Lib.hid (D.out.growL hg' hv' hpl)
                skip
                have he : (ll ++ [21]).length = ll.length + 1 := by simp
                rw [he] at D
                clear he
                obtain ⟨wN, hwN⟩ : ∃ wN, Hid (wN = u9.setCell ⟨gp, 0, none⟩ (.slice an (ll.length + 1) cn)) := ⟨_, rfl⟩
                rw [← hwN.out] at D ⊢
                clear hv' hg' hpl rcb rzb b1 hlit hHeld
                have hgpl := D.out.b1.lt
                have b1 := D.out.b1
                obtain ⟨rc1, rz1⟩ := (b1).rules; have rl1 := (b1).lt
                go_upto_region 16 with (at_builtin; refine wpl_appP _ rfl (.tmp 79) (.tmp 80) rfl (gp + 1) (.slice aa la.length ca) (la) rfl (by have := (D.out.ext (ext_alloc (ext_refl wN) (.cells #[.int .i64 0] 3))).ia; exact this) wN.heap.size [0] 1 1 rfl ((Ints.lit _ 0).base (Nat.zero_le _)) (by show (la).length + 1 ≤ _; (try simp); omega) (by rw [World.size_alloc]; omega) ?_; intro v' u5 hv' hg' hpl; obtain ⟨am, cm, rfl, -⟩ := hv'.open; obtain ⟨rc5, rz5⟩ := ((D.out.ext (ext_alloc (ext_refl wN) (.cells #[.int .i64 0] 3))).b1.grown hg' (fun e => by have := (D.out.ext (ext_alloc (ext_refl wN) (.cells #[.int .i64 0] 3))).ia.lt _ e.symm; omega)).rules)
                have D := Lib.hid ((D.out.ext (ext_alloc (ext_refl wN) (.cells #[.int .i64 0] 3))).growA hg' hv' hpl)
                clear rc5 rz5 rc1 rz1 rl1
                skip
                have he : (la ++ [0]).length = la.length + 1 := by simp
                rw [he] at D
                clear he
                obtain ⟨wM, hwM⟩ : ∃ wM, Hid (wM = u5.setCell ⟨gp, 1, none⟩ (.slice am (la.length + 1) cm)) := ⟨_, rfl⟩
                rw [← hwM.out] at D ⊢
                clear hv' hg' hpl
                have b0 := D.out.b0
                have b1 := D.out.b1
                obtain ⟨rc0, rz0⟩ := (b0).rules; have rl0 := (b0).lt
                obtain ⟨rc1, rz1⟩ := (b1).rules; have rl1 := (b1).lt
                go_wp2_with fail
                refine bodyPost_ret (v := .agg #[.slice an (ll.length + 1) cn, .slice am (la.length + 1) cm]) (by simp [results, Try.results60, go_sem, *]) rfl ?_
                obtain ⟨F1, F2, F3, F4, F5⟩ := D.out.done (.slice an (ll.length + 1) cn) (.slice am (la.length + 1) cm) 0 1
                first | exact ⟨_, _, _, _, rfl, F1, F2, by (try simp); omega, by (try simp); omega, F3, F4.mono (by omega), F5⟩ | exact ⟨_, _, rfl, _, F1, _, F2, by (try simp); omega, by (try simp); omega, F3, F4.mono (by omega), F5⟩
          · go_upto_region 9 with fail
            refine wp_region_tail 9 (by kernel_rfl) (by kernel_rfl) (fun w' => w'.cell? ⟨gp, 0, none⟩ = some (Value.slice al ll.length cl) ∧ w'.cell? ⟨gp, 1, none⟩ = some (Value.slice aa la.length ca)) ?_ ?_
            · exact ⟨D.out.b1.cell0 rfl, D.out.b1.cell0 rfl⟩
            intro hHeld
            have D := Lib.hid (D.out.ext (ext_drew (ext_refl w17)))
            obtain ⟨d10, hd10⟩ : ∃ d, Hid (d = w17.drew) := ⟨_, rfl⟩
            have qd10 : w17.heap.size ≤ d10.heap.size := by rw [hd10.out]; exact Nat.le_refl _
            rw [← hd10.out] at D hHeld ⊢
            simp only [List.pop_toArray, List.dropLast]
            refine wpAnyH_take (i := 0) (v := ?_) rfl (by kernel_rfl) (by kernel_rfl) (by kernel_rfl) (fun _ _ _ h => h) (Or.inl ⟨by rfl, fun w' hS' => ?_⟩) (by assumption) ?_
            rotate_left
            · (try dsimp only at hS'); go_simp; (try rw [if_pos (by omega)]); try with_reducible rfl
            try simp only [Act.put, List.getElem_toArray, List.getElem_cons_zero, List.getElem_cons_succ, List.setIfInBounds_toArray, List.set_cons_zero, List.set_cons_succ]
            refine wpAnyH_take (i := 1) (v := ?_) rfl (by kernel_rfl) (by kernel_rfl) (by kernel_rfl) (fun _ _ _ h => h) (Or.inl ⟨by rfl, fun w' hS' => ?_⟩) (by assumption) ?_
            rotate_left
            · (try dsimp only at hS'); go_simp; (try rw [if_pos (by omega)]); try with_reducible rfl
            try simp only [Act.put, List.getElem_toArray, List.getElem_cons_zero, List.getElem_cons_succ, List.setIfInBounds_toArray, List.set_cons_zero, List.set_cons_succ]
            refine wpAnyH_take (i := 2) (v := ?_) rfl (by kernel_rfl) (by kernel_rfl) (by kernel_rfl) (fun _ _ _ h => h) (Or.inl ⟨by rfl, fun w' hS' => ?_⟩) (by assumption) ?_
            rotate_left
            · (try dsimp only at hS'); go_simp; (try rw [if_pos (by omega)]); try with_reducible rfl
            try simp only [Act.put, List.getElem_toArray, List.getElem_cons_zero, List.getElem_cons_succ, List.setIfInBounds_toArray, List.set_cons_zero, List.set_cons_succ]
            refine wpAnyH_take (i := 3) (v := ?_) rfl (by kernel_rfl) (by kernel_rfl) (by kernel_rfl) (fun _ _ _ h => h) (Or.inl ⟨by rfl, fun w' hS' => ?_⟩) (by assumption) ?_
            rotate_left
            · (try dsimp only at hS'); go_simp; (try rw [if_pos (by omega)]); try with_reducible rfl
            try simp only [Act.put, List.getElem_toArray, List.getElem_cons_zero, List.getElem_cons_succ, List.setIfInBounds_toArray, List.set_cons_zero, List.set_cons_succ]
            refine wpAnyH_take (i := 4) (v := ?_) rfl (by kernel_rfl) (by kernel_rfl) (by kernel_rfl) (fun _ _ _ h => h) (Or.inl ⟨by rfl, fun w' hS' => ?_⟩) (by assumption) ?_
            rotate_left
            · (try dsimp only at hS'); go_simp; (try rw [if_pos (by omega)]); try with_reducible rfl
            try simp only [Act.put, List.getElem_toArray, List.getElem_cons_zero, List.getElem_cons_succ, List.setIfInBounds_toArray, List.set_cons_zero, List.set_cons_succ]
            refine wpAnyH_take (i := 5) (v := ?_) rfl (by kernel_rfl) (by kernel_rfl) (by kernel_rfl) (fun _ _ _ h => h) (Or.inl ⟨by rfl, fun w' hS' => ?_⟩) (by assumption) ?_
            rotate_left
            · (try dsimp only at hS'); go_simp; (try rw [if_pos (by omega)]); try with_reducible rfl
            try simp only [Act.put, List.getElem_toArray, List.getElem_cons_zero, List.getElem_cons_succ, List.setIfInBounds_toArray, List.set_cons_zero, List.set_cons_succ]
            generalize IntKind.i64.wrap (2 ^ ll.length) = sh
            refine wpAnyH_ready (rs := [6]) (by kernel_rfl) (by simp) ?_
            refine AllReadyH.cons rfl (fun K' hK => ?_) AllReadyH.nil
            refine if_yes (by rfl) ?_
            try simp only [Act.put, List.getElem_toArray, List.getElem_cons_zero, List.getElem_cons_succ, List.setIfInBounds_toArray, List.set_cons_zero, List.set_cons_succ]
            go_simp
            obtain ⟨u11, hu11, T11, hs11, hb11⟩ := one_box d10 #[.int .i64 sh] 3
            have hlit : Ints u11 0 (.slice (some ⟨d10.heap.size, 0, none⟩) 1 1) [sh] := by rw [hu11.out]; exact (Ints.lit d10 sh).base (Nat.zero_le _)
            rw [← hu11.out]
            have D := Lib.hid (D.out.ext hb11)
            have qu11 := hb11.size
            refine hK.out _ _ ?_ (fun hHeld => ?_)
            · exact ⟨D.out.b1.cell0 rfl, D.out.b1.cell0 rfl⟩
            clear hK K'
            try simp only [Act.put, List.setIfInBounds_toArray, List.set_cons_zero, List.set_cons_succ]
            refine wpAnyH_ready (rs := [7]) (by kernel_rfl) (by simp) ?_
            refine AllReadyH.cons rfl (fun K' hK => ?_) AllReadyH.nil
            refine if_yes (by rfl) ?_
            try simp only [Act.put, List.getElem_toArray, List.getElem_cons_zero, List.getElem_cons_succ, List.setIfInBounds_toArray, List.set_cons_zero, List.set_cons_succ]
            have hgp := D.out.b1.lt
            refine wp_appP _ (.tmp 46) (.tmp 51) rfl (gp + 1) (.slice aa la.length ca) (la) rfl (by have := D.out.ia; exact this) d10.heap.size [sh] 1 1 rfl hlit (by simp; omega) (by omega) ?_
            intro v' u12 hv' hg' hpl
            have b1 := D.out.b1.grown hg' (fun e => by have := D.out.ia.lt _ e.symm; omega)
            obtain ⟨an, cn, rfl, -⟩ := hv'.open
            refine hK.out _ _ ?_ (fun hHeld => ?_)
            · exact ⟨b1.cell0 rfl, b1.cell0 rfl⟩
            clear hK K'
            try simp only [Act.put, List.setIfInBounds_toArray, List.set_cons_zero, List.set_cons_succ]
            obtain ⟨rcb, rzb⟩ := b1.rules
            refine wpAnyH_take (i := 8) (v := ?_) rfl (by kernel_rfl) (by kernel_rfl) (by kernel_rfl) (fun _ _ _ h => h) (Or.inl ⟨by rfl, fun w' hS' => ?_⟩) (by assumption) ?_
            rotate_left
            · (try dsimp only at hS'); go_simp; (try rw [if_pos (by omega)]); try with_reducible rfl
            try simp only [Act.put, List.getElem_toArray, List.getElem_cons_zero, List.getElem_cons_succ, List.setIfInBounds_toArray, List.set_cons_zero, List.set_cons_succ]
            refine wpAnyH_done (by kernel_rfl) ?_ _
            refine tail_step rfl (fun K' hK => ?_)
            refine if_yes (by rfl) ?_
            try simp only [Act.put, List.getElem_toArray, List.getElem_cons_zero, List.getElem_cons_succ, List.setIfInBounds_toArray, List.set_cons_zero, List.set_cons_succ]
            go_simp
            refine hK _ _ ?_
            clear hK K'
            try simp only [Act.put, List.getElem_toArray, List.getElem_cons_zero, List.getElem_cons_succ, List.setIfInBounds_toArray, List.set_cons_zero, List.set_cons_succ]
            have D := Lib.hid (D.out.growA hg' hv' hpl)
            skip
            have he : (la ++ [sh]).length = la.length + 1 := by simp
            rw [he] at D
            clear he
            obtain ⟨wA, hwA⟩ : ∃ wA, Hid (wA = u12.setCell ⟨gp, 1, none⟩ (.slice an (la.length + 1) cn)) := ⟨_, rfl⟩
            rw [← hwA.out] at D ⊢
            clear hv' hg' hpl rcb rzb b1 hlit hHeld
            have hgpl := D.out.b1.lt
            have b1 := D.out.b1
            obtain ⟨rc1, rz1⟩ := (b1).rules; have rl1 := (b1).lt
            go_upto_region 16 with (at_builtin; refine wpl_appP _ rfl (.tmp 55) (.tmp 56) rfl (gp + 1) (.slice al ll.length cl) (ll) rfl (by have := (D.out.ext (ext_alloc (ext_refl wA) (.cells #[.int .i64 1] 3))).il; exact this) wA.heap.size [1] 1 1 rfl ((Ints.lit _ 1).base (Nat.zero_le _)) (by show (ll).length + 1 ≤ _; (try simp); omega) (by rw [World.size_alloc]; omega) ?_; intro v' u5 hv' hg' hpl; obtain ⟨am, cm, rfl, -⟩ := hv'.open; obtain ⟨rc5, rz5⟩ := ((D.out.ext (ext_alloc (ext_refl wA) (.cells #[.int .i64 1] 3))).b1.grown hg' (fun e => by have := (D.out.ext (ext_alloc (ext_refl wA) (.cells #[.int .i64 1] 3))).il.lt _ e.symm; omega)).rules)
            have D := Lib.hid ((D.out.ext (ext_alloc (ext_refl wA) (.cells #[.int .i64 1] 3))).growL hg' hv' hpl)
            clear rc5 rz5 rc1 rz1 rl1
            skip
            have he : (ll ++ [1]).length = ll.length + 1 := by simp
            rw [he] at D
            clear he
            obtain ⟨wM, hwM⟩ : ∃ wM, Hid (wM = u5.setCell ⟨gp, 0, none⟩ (.slice am (ll.length + 1) cm)) := ⟨_, rfl⟩
            rw [← hwM.out] at D ⊢
            clear hv' hg' hpl
            have b0 := D.out.b0
            have b1 := D.out.b1
            obtain ⟨rc0, rz0⟩ := (b0).rules; have rl0 := (b0).lt
            obtain ⟨rc1, rz1⟩ := (b1).rules; have rl1 := (b1).lt
            go_wp2_with fail
            refine bodyPost_ret (v := .agg #[.slice am (ll.length + 1) cm, .slice an (la.length + 1) cn]) (by simp [results, Try.results60, go_sem, *]) rfl ?_
            obtain ⟨F1, F2, F3, F4, F5⟩ := D.out.done (.slice am (ll.length + 1) cm) (.slice an (la.length + 1) cn) 0 1
            first | exact ⟨_, _, _, _, rfl, F1, F2, by (try simp); omega, by (try simp); omega, F3, F4.mono (by omega), F5⟩ | exact ⟨_, _, rfl, _, F1, _, F2, by (try simp); omega, by (try simp); omega, F3, F4.mono (by omega), F5⟩
theorem spec_l20Project (B g m : Nat) (n : Int) (w : World) (h : Rd w B g m) (hm : m ≤ 100000) (hn : 0 ≤ n) :
    Calls Try.prog 60 #[.pointer (some ⟨g, 0, none⟩), .int .i64 n] w fun e w' => ∃ (v1 v2 : Value) (l t : List Int), e = .returned (.agg #[v1, v2]) ∧ Ints w' w.heap.size v1 l ∧ Ints w' w.heap.size v2 t ∧ l.length ≤ 8 ∧ t.length ≤ 8 ∧ w.grownBy w' (some g) :=
  (spec_l20Project' B g m n w h hm hn).mono fun e w' ⟨v1, v2, l, t, h1, h2, h3, h4, h5, h6, _⟩ => ⟨v1, v2, l, t, h1, h2, h3, h4, h5, h6⟩
end Go.Proofs.Ytdfcjhcnojgkiaa
