/- The walk of FnSparesOf: it returns true, whatever code came in. Condition: the bytes of the code can be read. -/
import Derived.Test.YtllicgomlohffaaDrawnP
import Derived.Test.YtllicgomlohffaaSpares
import Derived.Test.YtllicgomlohffaaLawInts
import Derived.Test.YtllicgomlohffaaSame
import Derived.Test.YtllicgomlohffaaHasInt
namespace Go.Proofs.Ytllicgomlohffaa
open Go.RowKit
set_option linter.unusedVariables false
set_option linter.unusedSimpArgs false
/-- the project with task k longer by x -/
def Pj.by (p : Pj) (k : Nat) (x : Int) : Pj := ⟨p.lo.set k (p.lo.getD k 0 + x), p.af⟩
theorem by_L {p : Pj} {k : Nat} (hk : k < p.lo.length) (x : Int) : (p.by k x).L k = p.L k + x ∧ ∀ j, j ≠ k → (p.by k x).L j = p.L j := by
  unfold Pj.L Pj.by
  dsimp only
  constructor
  · rw [List.getD_eq_getElem?_getD, List.getElem?_set_self (by omega)]; rfl
  · intro j hj
    rw [List.getD_eq_getElem?_getD, List.getElem?_set_ne (Ne.symm hj), List.getD_eq_getElem?_getD]
theorem by_early (p : Pj) (k : Nat) (x : Int) : IsEarly (p.by k x).L p.A p.lo.length (fun j => (p.by k x).early.getD j 0) := by
  have e := early_is (p.by k x)
  rw [show (p.by k x).lo.length = p.lo.length by simp [Pj.by]] at e
  exact e
theorem by_end (p : Pj) (k : Nat) (x : Int) : (p.by k x).len = endUp (p.by k x).L (fun j => (p.by k x).early.getD j 0) p.lo.length := by
  unfold Pj.len
  rw [show (p.by k x).lo.length = p.lo.length by simp [Pj.by]]
def spA (p : Pj) (k : Nat) : Int := tOf p k - p.early.getD k 0
theorem by_len {p : Pj} {k : Nat} (hk : k < p.lo.length) : (p.by k (spA p k)).len = p.len := by
  rw [by_end]
  exact by_spare (early_is p) (by_early p k _) (late_is p) hk (by_L hk _).1 (by_L hk _).2
theorem by_len1 {p : Pj} {k : Nat} (hk : k < p.lo.length) : (p.by k (spA p k + 1)).len = p.len + 1 := by
  have a : p.len + 1 ≤ (p.by k (spA p k + 1)).len := by
    rw [by_end]
    exact past_spare (early_is p) (by_early p k _) (late_is p) hk (by rw [(by_L hk _).1]; unfold spA; omega) (by_L hk _).2
  have b : (p.by k (spA p k + 1)).len ≤ (p.by k (spA p k)).len + 1 := by
    rw [by_end, by_end]
    refine one_longer (k := k) (by_early p k _) (by_early p k _) (by rw [(by_L hk _).1, (by_L hk _).1]; omega) (fun j hj => by rw [(by_L hk _).2 j hj, (by_L hk _).2 j hj]) hk
  rw [by_len hk] at b
  omega
theorem lenOf_two (q : Pj) (x : Int) (h : q.len = x) : q.lenOf < 0 ∨ q.lenOf = x := by
  unfold Pj.lenOf
  split
  · exact .inr h
  · left; decide
theorem some_free {p : Pj} (hok : p.ok = true) (hn : 0 < p.lo.length) : ∃ j, j < p.lo.length ∧ spA p j = 0 := by
  obtain ⟨k, hk, he⟩ := some_critical (early_is p) (late_is p) hn fun j hj => ((ok_upto hok).2.2.1 j hj).1
  exact ⟨k, hk, by unfold spA; omega⟩
theorem ints_put {w : World} {base n g cap : Nat} {l : List Int} (h : Ints w base (.slice (some ⟨g, 0, none⟩) n cap) l) (j : Nat) (x : Int) :
    ∃ w', Hid (w' = (w.setCell ⟨g, j, none⟩ (.int .i64 x)).drew) ∧ Hid (Ints w' base (.slice (some ⟨g, 0, none⟩) n cap) (l.set j x)) ∧ (∀ B, B ≤ g → Below B w w') :=
  ⟨_, rfl, (h.set j x).drew, fun B hB => ((Below.refl B w).setCell hB _).drew⟩
set_option maxRecDepth 100000 in
set_option maxHeartbeats 8000000 in
theorem walk_SparesOf (a : Option Addr) (n cap : Nat) (w : World) (h : Byt w w.heap.size a n cap) :
    Calls Try.prog 10 #[.slice a n cap] w fun e w' => e = .returned (.bool true) ∧ Below w.heap.size w w' := by
  have H := Lib.hid h
  obtain ⟨hncap, hcap, -⟩ := id h
  clear h
  by_cases hbig : 1048576 < n
  · go_enter Try.func10, Try.ntmps10
    go_wp2_with fail
    go_ret
    exact ⟨rfl, ext_refl _⟩
  go_enter Try.func10, Try.ntmps10
  go_wp2_with fail
  refine (spec_DrawSparesOf a n cap w H.out).mono ?_
  rintro e w1 ⟨v1, v2, l, t, rfl, hV, hU, hl8, ht8, hb1⟩
  have E := hb1
  clear hb1
  obtain ⟨a1, c1, rfl, -⟩ := hV.open
  have V := Lib.hid hV
  clear hV
  obtain ⟨a2, c2, rfl, -⟩ := hU.open
  have U := Lib.hid hU
  clear hU
  go_wp2_with fail
  obtain ⟨w2, hw2, A0, hs2, hb2⟩ := one_box w1 #[.slice a1 l.length c1, .slice a2 t.length c2] 27
  rw [← hw2.out]
  have V := Lib.hid (V.out.ext hb2)
  have U := Lib.hid (U.out.ext hb2)
  have E := ext_trans E hb2
  clear hb2
  obtain ⟨p, hp⟩ : ∃ p : Pj, Hid (p = ⟨l, t⟩) := ⟨_, rfl⟩
  have hpl : Hid (p.lo = l) := by rw [hp.out]; exact Lib.hid rfl
  have hpt : Hid (p.af = t) := by rw [hp.out]; exact Lib.hid rfl
  have V : Hid (Ints w2 w.heap.size (.slice a1 l.length c1) p.lo) := by rw [hpl.out]; exact V
  have U : Hid (Ints w2 w.heap.size (.slice a2 t.length c2) p.af) := by rw [hpt.out]; exact U
  obtain ⟨rcA0, rzA0⟩ := (A0).rules; have rlA0 := (A0).lt
  go_wp2_with fail
  obtain ⟨T0, hT0⟩ : ∃ T0 : List Int, Hid (T0 = p.sparesOf) := ⟨_, rfl⟩
  refine (impl_SparesOf p _ _ _ (V.out.base (Nat.zero_le _)) (U.out.base (Nat.zero_le _))).mono ?_
  rintro e w3 ⟨vX, rfl, hX, hb3⟩
  clear rcA0 rzA0 rlA0
  have A0 := A0.ext hb3
  have V := Lib.hid (V.out.ext hb3)
  have U := Lib.hid (U.out.ext hb3)
  have E := ext_trans E hb3
  clear hb3
  obtain ⟨aX, cX, rfl, -⟩ := hX.open
  have X := Lib.hid hX
  clear hX
  rw [← hT0.out] at X ⊢
  obtain ⟨rcA0, rzA0⟩ := (A0).rules; have rlA0 := (A0).lt
  go_wp2_with fail
  refine (spec_SparesOf p _ _ _ (V.out.base (Nat.zero_le _)) (U.out.base (Nat.zero_le _))).mono ?_
  rintro e w4 ⟨vY, rfl, hY, hb4⟩
  clear rcA0 rzA0 rlA0
  have A0 := A0.ext hb4
  have V := Lib.hid (V.out.ext hb4)
  have U := Lib.hid (U.out.ext hb4)
  have X := Lib.hid (X.out.ext hb4)
  have E := ext_trans E hb4
  clear hb4
  obtain ⟨aY, cY, rfl, -⟩ := hY.open
  have Y := Lib.hid hY
  clear hY
  rw [← hT0.out] at Y ⊢
  obtain ⟨rcA0, rzA0⟩ := (A0).rules; have rlA0 := (A0).lt
  go_wp2_with fail
  refine (laws_sameInts _ _ T0 T0 _ (X.out.base (Nat.zero_le _)) (Y.out.base (Nat.zero_le _))).mono ?_
  rintro e w5 ⟨rfl, hb5⟩
  clear rcA0 rzA0 rlA0
  have A0 := A0.ext hb5
  have V := Lib.hid (V.out.ext hb5)
  have U := Lib.hid (U.out.ext hb5)
  have X := Lib.hid (X.out.ext hb5)
  have Y := Lib.hid (Y.out.ext hb5)
  have E := ext_trans E hb5
  clear hb5
  rw [decide_eq_true rfl]
  obtain ⟨rcA0, rzA0⟩ := (A0).rules; have rlA0 := (A0).lt
  have HT0 := Lib.hid hT0.out
  by_cases hE0 : T0.length = 0
  · have hz0 : ((T0.length : Int) == 0) = true := by simp [hE0]
    have HE := Lib.hid hE0
    by_cases hl0 : l.length = 0
    · have he0 : ((l.length : Int) == 0) = true := by simp [hl0]
      have Hl0 := Lib.hid hl0
      clear hl0 hE0
      go_wp2_with fail
      refine (laws_alive _).mono ?_
      rintro e w6 ⟨rfl, hb6⟩
      clear rcA0 rzA0 rlA0
      have A0 := A0.ext hb6
      have V := Lib.hid (V.out.ext hb6)
      have U := Lib.hid (U.out.ext hb6)
      have X := Lib.hid (X.out.ext hb6)
      have Y := Lib.hid (Y.out.ext hb6)
      have E := ext_trans E hb6
      clear hb6
      go_wp2_with fail
      go_ret
      exact ⟨rfl, E⟩
    · have he0 : ((l.length : Int) == 0) = false := beq_false_of_ne (by omega)
      have Hl0 := Lib.hid hl0
      clear hl0 hE0
      have Hok : Hid (p.ok = false) := by
        cases hok : p.ok
        · exact Lib.hid rfl
        · exfalso
          have h1 := HE.out
          rw [HT0.out, Pj.sparesOf, rowOf_length, show p.earlyOf = p.early from if_pos hok, early_len, hpl.out] at h1
          exact Hl0.out h1
      go_wp2_with fail
      refine (impl_ProjectOk p _ _ _ (V.out.base (Nat.zero_le _)) (U.out.base (Nat.zero_le _))).mono ?_
      rintro e w6 ⟨rfl, hb6⟩
      clear rcA0 rzA0 rlA0
      have A0 := A0.ext hb6
      have V := Lib.hid (V.out.ext hb6)
      have U := Lib.hid (U.out.ext hb6)
      have X := Lib.hid (X.out.ext hb6)
      have Y := Lib.hid (Y.out.ext hb6)
      have E := ext_trans E hb6
      clear hb6
      rw [Hok.out]
      obtain ⟨rcA0, rzA0⟩ := (A0).rules; have rlA0 := (A0).lt
      go_wp2_with fail
      refine (laws_alive _).mono ?_
      rintro e w7 ⟨rfl, hb7⟩
      clear rcA0 rzA0 rlA0
      have A0 := A0.ext hb7
      have V := Lib.hid (V.out.ext hb7)
      have U := Lib.hid (U.out.ext hb7)
      have X := Lib.hid (X.out.ext hb7)
      have Y := Lib.hid (Y.out.ext hb7)
      have E := ext_trans E hb7
      clear hb7
      go_wp2_with fail
      go_ret
      exact ⟨rfl, E⟩
  · have hz0 : ((T0.length : Int) == 0) = false := beq_false_of_ne (by omega)
    have Hok : Hid (p.ok = true) := by
      cases hok : p.ok
      · exfalso
        rw [HT0.out, Pj.sparesOf, rowOf_length, show p.earlyOf = [] from if_neg (by simp [hok])] at hE0
        exact hE0 rfl
      · exact Lib.hid rfl
    obtain ⟨N, hN⟩ : ∃ N, Hid (N = p.lo.length) := ⟨_, rfl⟩
    have hEe : Hid (p.earlyOf.length = N) := by rw [hN.out, show p.earlyOf = p.early from if_pos Hok.out, early_len]; exact Lib.hid rfl
    have HTa : Hid (∀ k, k < N → T0.getD k 0 = spA p k) := by
      rw [HT0.out]
      intro k hk
      rw [Pj.sparesOf, rowOf_getD _ _ _ (by rw [hEe.out]; exact hk), spF, show p.earlyOf = p.early from if_pos Hok.out, show p.lateOf = p.late from if_pos Hok.out]
      rfl
    have hTN : Hid (T0.length = N) := by rw [HT0.out, Pj.sparesOf, rowOf_length]; exact hEe
    have hlN : Hid (l.length = N) := by rw [hN.out, hpl.out]; exact Lib.hid rfl
    obtain ⟨hl6, haf, hLs, hAs⟩ := ok_upto Hok.out
    have hN6 : N ≤ 6 := by rw [hN.out]; exact hl6
    have hN0 : 0 < N := by have := hTN.out; omega
    have HLs := Lib.hid hLs
    have Hin := Lib.hid (late_in Hok.out)
    have Hear := Lib.hid (early_in Hok.out)
    have hlen := len_in Hok.out
    have Hge := Lib.hid (late_early (early_is p) (late_is p))
    rw [hTN.out] at X hz0 ⊢
    rw [hlN.out] at V A0
    have HVlt := Lib.hid V.out.lt; have HUlt := Lib.hid U.out.lt; have HXlt := Lib.hid X.out.lt; have HAlt := Lib.hid A0.lt
    clear hl6 haf hLs hAs hE0
    obtain ⟨ln, hln⟩ : ∃ x, Hid (x = p.len) := ⟨_, rfl⟩
    rw [← hln.out] at hlen
    clear rcA0 rzA0 rlA0
    obtain ⟨rcA0, rzA0⟩ := (A0).rules; have rlA0 := (A0).lt
    go_wp2_with fail
    have hEw := Lib.hid E.size; have hAw := Lib.hid A0.lt
    go_loopg [5] N (fun m kk wr => ∃ k : Nat, k ≤ N ∧ m = N - k ∧ kk = .int .i64 k ∧ Below w5.heap.size w5 wr)
    case atStart => exact ⟨0, by omega, by omega, rfl, ext_refl _⟩
    case round =>
      clear rcA0 rzA0 rlA0
      obtain ⟨k, hk, hgk, rfl, hbel⟩ := hrel
      have Hk := Lib.hid hgk
      clear hgk
      have A1 := A0.ext hbel
      have V1 := Lib.hid (V.out.ext hbel); have U1 := Lib.hid (U.out.ext hbel); have X1 := Lib.hid (X.out.ext hbel)
      have E1 := ext_trans E hbel
      have hsz := hbel.size
      by_cases hlt : k < N
      · have hkl : k < p.lo.length := by rw [← hN.out]; exact hlt
        have hkT : k < T0.length := by rw [hTN.out]; exact hlt
        have hke : k < p.early.length := by rw [early_len]; exact hkl
        obtain ⟨gx, hax, _, hgx, _, cs⟩ := X1.out.at_ hkT
        subst hax
        rw [HTa.out k hlt] at cs
        obtain ⟨s, Hs⟩ : ∃ x, Hid (x = spA p k) := ⟨_, rfl⟩
        rw [← Hs.out] at cs
        obtain ⟨x, Hx⟩ : ∃ x, Hid (x = p.lo.getD k 0) := ⟨_, rfl⟩
        have hx : 1 ≤ x ∧ x ≤ 20 := by rw [Hx.out]; exact HLs.out k hkl
        have hs0 : 0 ≤ s ∧ s ≤ 140 := by
          have h1 := Hge.out _ k rfl hkl
          have h2 := Hin.out k hkl
          have h3 := Hear.out k hke
          have h4 := HLs.out k hkl
          have h5 := Hs.out
          unfold spA at h5
          rw [← hln.out] at h2
          omega
        have hgxl := (X.out.lt gx rfl).2
        have hw1 : IntKind.i64.wrap (x + s) = x + s := IntWalk.i64_in _ (by omega)
        have hw2 : IntKind.i64.wrap (x + s + 1) = x + s + 1 := IntWalk.i64_in _ (by omega)
        have hB := ext_refl wr
        skip
        have A2 := A1.ext hB
        have V2 := Lib.hid (V1.out.ext hB)
        obtain ⟨rcA2, rzA2⟩ := (A2).rules; have rlA2 := (A2).lt
        go_upto_region 13 with (at_builtin; refine wpl_appI _ rfl (.tmp 43) (.tmp 45) rfl wr.heap.size 0 (.slice (some ⟨wr.heap.size, 0, none⟩) 0 0) [] rfl (Ints.ofBox (Box.new wr 3 #[]) (Nat.le_refl _)) (.slice a1 N c1) p.lo rfl ((V2.out.alloc _).base (Nat.zero_le _)) (by simp; rw [← hN.out]; omega) (by simp) ?_; intro v' w9 hv' hg'; simp only [List.nil_append] at hv'; obtain ⟨aR, cR, hvR, -⟩ := hv'.open; rw [← hN.out] at hvR; subst hvR)
        have hbw9 : Below wr.heap.size wr w9 := ext_grown (ext_alloc (ext_refl wr) _) hg' (fun q hq => by simp [Value.ownBlock] at hq; omega)
        have R := Lib.hid hv'
        clear hv' hg' rcA2 rzA2 rlA2 A2 V2
        have hB := ext_trans hB hbw9
        have cs : w9.cell? ⟨gx, k, none⟩ = some (.int .i64 s) := by rw [(X1.out.ext hB).cellI hkT, HTa.out k hlt, Hs.out]
        obtain ⟨gR, haR, hgRb, hgR, hzR, cRk⟩ := R.out.at_ hkl
        subst haR
        rw [← Hx.out] at cRk
        refine wp_region_tail 12 (by kernel_rfl) (by kernel_rfl) (fun w' => w'.cell? ⟨gR, k, none⟩ = some (.int .i64 x) ∧ w'.cell? ⟨gx, k, none⟩ = some (.int .i64 s)) ?_ ?_
        · exact ⟨cRk, cs⟩
        intro hHeld
        simp only [List.pop_toArray, List.dropLast]
        refine wpAnyH_take (i := 0) (v := ?_) rfl (by kernel_rfl) (by kernel_rfl) (by kernel_rfl) (fun _ _ _ h => h) (Or.inl ⟨by rfl, fun w' hS' => ?_⟩) (by assumption) ?_
        rotate_left
        · (try dsimp only at hS'); go_simp; (try rw [if_pos (by omega)]); try with_reducible rfl
        try simp only [Act.put, List.getElem_toArray, List.getElem_cons_zero, List.getElem_cons_succ, List.setIfInBounds_toArray, List.set_cons_zero, List.set_cons_succ]
        refine wpAnyH_take (i := 1) (v := ?_) rfl (by kernel_rfl) (by kernel_rfl) (by kernel_rfl) (fun _ _ _ h => h) (Or.inl ⟨by rfl, fun w' hS' => ?_⟩) (by assumption) ?_
        rotate_left
        · (try dsimp only at hS'); go_simp; (try rw [if_pos (by omega)]); try with_reducible rfl
        try simp only [Act.put, List.getElem_toArray, List.getElem_cons_zero, List.getElem_cons_succ, List.setIfInBounds_toArray, List.set_cons_zero, List.set_cons_succ]
        refine wpAnyH_take (i := 2) (v := ?_) rfl (by kernel_rfl) (by kernel_rfl) (by kernel_rfl) (fun _ _ _ h => h) (Or.inl ⟨by rfl, fun w' hS' => ?_⟩) (by assumption) ?_
        rotate_left
        · (try dsimp only at hS'); go_simp; (try rw [if_pos (by omega)]); try with_reducible rfl
        try simp only [Act.put, List.getElem_toArray, List.getElem_cons_zero, List.getElem_cons_succ, List.setIfInBounds_toArray, List.set_cons_zero, List.set_cons_succ]
        refine wpAnyH_take (i := 3) (v := ?_) rfl (by kernel_rfl) (by kernel_rfl) (by kernel_rfl) (fun _ _ _ h => h) (Or.inl ⟨by rfl, fun w' hS' => ?_⟩) (by assumption) ?_
        rotate_left
        · (try dsimp only at hS'); go_simp; (try rw [if_pos (by omega)]); try with_reducible rfl
        try simp only [Act.put, List.getElem_toArray, List.getElem_cons_zero, List.getElem_cons_succ, List.setIfInBounds_toArray, List.set_cons_zero, List.set_cons_succ]
        refine wpAnyH_take (i := 4) (v := ?_) rfl (by kernel_rfl) (by kernel_rfl) (by kernel_rfl) (fun _ _ _ h => h) (Or.inl ⟨by rfl, fun w' hS' => ?_⟩) (by assumption) ?_
        rotate_left
        · (try dsimp only at hS'); go_simp; (try rw [if_pos (by omega)]); try with_reducible rfl
        try simp only [Act.put, List.getElem_toArray, List.getElem_cons_zero, List.getElem_cons_succ, List.setIfInBounds_toArray, List.set_cons_zero, List.set_cons_succ]
        refine wpAnyH_take (i := 5) (v := ?_) rfl (by kernel_rfl) (by kernel_rfl) (by kernel_rfl) (fun _ _ _ h => h) (Or.inl ⟨by rfl, fun w' hS' => ?_⟩) (by assumption) ?_
        rotate_left
        · (try dsimp only at hS'); go_simp; (try rw [if_pos (by omega)]); try with_reducible rfl
        try simp only [Act.put, List.getElem_toArray, List.getElem_cons_zero, List.getElem_cons_succ, List.setIfInBounds_toArray, List.set_cons_zero, List.set_cons_succ]
        refine wpAnyH_take (i := 6) (v := ?_) rfl (by kernel_rfl) (by kernel_rfl) (by kernel_rfl) (fun _ _ _ h => h) (Or.inl ⟨by rfl, fun w' hS' => ?_⟩) (by assumption) ?_
        rotate_left
        · (try dsimp only at hS'); go_simp; (try rw [if_pos (by omega)]); try with_reducible rfl
        try simp only [Act.put, List.getElem_toArray, List.getElem_cons_zero, List.getElem_cons_succ, List.setIfInBounds_toArray, List.set_cons_zero, List.set_cons_succ]
        refine wpAnyH_take (i := 7) (v := ?_) rfl (by kernel_rfl) (by kernel_rfl) (by kernel_rfl) (fun _ _ _ h => h) (Or.inl ⟨by rfl, fun w' hS' => ?_⟩) (by assumption) ?_
        rotate_left
        · (try dsimp only at hS'); go_simp; (try rw [if_pos (by omega)]); try with_reducible rfl
        try simp only [Act.put, List.getElem_toArray, List.getElem_cons_zero, List.getElem_cons_succ, List.setIfInBounds_toArray, List.set_cons_zero, List.set_cons_succ]
        refine wpAnyH_take (i := 8) (v := ?_) rfl (by kernel_rfl) (by kernel_rfl) (by kernel_rfl) (fun _ _ _ h => h) (Or.inl ⟨by rfl, fun w' hS' => ?_⟩) (by assumption) ?_
        rotate_left
        · (try dsimp only at hS'); go_simp; (try rw [if_pos (by omega)]); try with_reducible rfl
        try simp only [Act.put, List.getElem_toArray, List.getElem_cons_zero, List.getElem_cons_succ, List.setIfInBounds_toArray, List.set_cons_zero, List.set_cons_succ]
        refine wpAnyH_take (i := 9) (v := ?_) rfl (by kernel_rfl) (by kernel_rfl) (by kernel_rfl) (fun _ _ _ h => h) (Or.inl ⟨by rfl, fun w' hS' => ?_⟩) (by assumption) ?_
        rotate_left
        · (try dsimp only at hS'); go_simp; (try rw [if_pos (by omega)]); try with_reducible rfl
        try simp only [Act.put, List.getElem_toArray, List.getElem_cons_zero, List.getElem_cons_succ, List.setIfInBounds_toArray, List.set_cons_zero, List.set_cons_succ]
        refine wpAnyH_take (i := 10) (v := ?_) rfl (by kernel_rfl) (by kernel_rfl) (by kernel_rfl) (fun _ _ _ h => h) (Or.inl ⟨by rfl, fun w' hS' => ?_⟩) (by assumption) ?_
        rotate_left
        · (try dsimp only at hS'); go_simp; (try rw [if_pos (by omega)]); try with_reducible rfl
        try simp only [Act.put, List.getElem_toArray, List.getElem_cons_zero, List.getElem_cons_succ, List.setIfInBounds_toArray, List.set_cons_zero, List.set_cons_succ]
        refine wpAnyH_take (i := 11) (v := ?_) rfl (by kernel_rfl) (by kernel_rfl) (by kernel_rfl) (fun _ _ _ h => h) (Or.inl ⟨by rfl, fun w' hS' => ?_⟩) (by assumption) ?_
        rotate_left
        · (try dsimp only at hS'); go_simp; (try rw [if_pos (by omega)]); try with_reducible rfl
        try simp only [Act.put, List.getElem_toArray, List.getElem_cons_zero, List.getElem_cons_succ, List.setIfInBounds_toArray, List.set_cons_zero, List.set_cons_succ]
        try rw [hw1]
        try rw [hw2]
        refine wpAnyH_done (by kernel_rfl) ?_ _
        refine tail_step rfl (fun K' hK => ?_)
        refine if_yes (by rfl) ?_
        try simp only [Act.put, List.getElem_toArray, List.getElem_cons_zero, List.getElem_cons_succ, List.setIfInBounds_toArray, List.set_cons_zero, List.set_cons_succ]
        go_simp
        refine hK _ _ ?_
        clear hK K'
        try simp only [Act.put, List.getElem_toArray, List.getElem_cons_zero, List.getElem_cons_succ, List.setIfInBounds_toArray, List.set_cons_zero, List.set_cons_succ]
        obtain ⟨w10, hw10, R2, hbw10⟩ := ints_put R.out k (x + s)
        try rw [hw1]
        try rw [hw2]
        rw [← hw10.out]
        clear hHeld cs
        have hB := hB.trans (hbw10 wr.heap.size (by omega))
        have q9 := hbw9.size; have q10 := (hbw10 wr.heap.size (by omega)).size
        have A2 := A1.ext hB
        have V2 := Lib.hid (V1.out.ext hB)
        obtain ⟨rcA2, rzA2⟩ := (A2).rules; have rlA2 := (A2).lt
        go_upto_region 15 with (at_builtin; refine wpl_appI _ rfl (.tmp 59) (.tmp 61) rfl w10.heap.size 0 (.slice (some ⟨w10.heap.size, 0, none⟩) 0 0) [] rfl (Ints.ofBox (Box.new w10 3 #[]) (Nat.le_refl _)) (.slice a1 N c1) p.lo rfl ((V2.out.alloc _).base (Nat.zero_le _)) (by simp; rw [← hN.out]; omega) (by simp) ?_; intro v' w11 hv' hg'; simp only [List.nil_append] at hv'; obtain ⟨aM, cM, hvM, -⟩ := hv'.open; rw [← hN.out] at hvM; subst hvM)
        have hbw11 : Below w10.heap.size w10 w11 := ext_grown (ext_alloc (ext_refl w10) _) hg' (fun q hq => by simp [Value.ownBlock] at hq; omega)
        have M := Lib.hid hv'
        clear hv' hg' rcA2 rzA2 rlA2 A2 V2
        have hB := ext_trans hB hbw11
        have cs : w11.cell? ⟨gx, k, none⟩ = some (.int .i64 s) := by rw [(X1.out.ext hB).cellI hkT, HTa.out k hlt, Hs.out]
        obtain ⟨gM, haM, hgMb, hgM, hzM, cMk⟩ := M.out.at_ hkl
        subst haM
        rw [← Hx.out] at cMk
        have hbw10M := hbw11
        refine wp_region_tail 13 (by kernel_rfl) (by kernel_rfl) (fun w' => w'.cell? ⟨gM, k, none⟩ = some (.int .i64 x) ∧ w'.cell? ⟨gx, k, none⟩ = some (.int .i64 s)) ?_ ?_
        · exact ⟨cMk, cs⟩
        intro hHeld
        simp only [List.pop_toArray, List.dropLast]
        refine wpAnyH_take (i := 0) (v := ?_) rfl (by kernel_rfl) (by kernel_rfl) (by kernel_rfl) (fun _ _ _ h => h) (Or.inl ⟨by rfl, fun w' hS' => ?_⟩) (by assumption) ?_
        rotate_left
        · (try dsimp only at hS'); go_simp; (try rw [if_pos (by omega)]); try with_reducible rfl
        try simp only [Act.put, List.getElem_toArray, List.getElem_cons_zero, List.getElem_cons_succ, List.setIfInBounds_toArray, List.set_cons_zero, List.set_cons_succ]
        refine wpAnyH_take (i := 1) (v := ?_) rfl (by kernel_rfl) (by kernel_rfl) (by kernel_rfl) (fun _ _ _ h => h) (Or.inl ⟨by rfl, fun w' hS' => ?_⟩) (by assumption) ?_
        rotate_left
        · (try dsimp only at hS'); go_simp; (try rw [if_pos (by omega)]); try with_reducible rfl
        try simp only [Act.put, List.getElem_toArray, List.getElem_cons_zero, List.getElem_cons_succ, List.setIfInBounds_toArray, List.set_cons_zero, List.set_cons_succ]
        refine wpAnyH_take (i := 2) (v := ?_) rfl (by kernel_rfl) (by kernel_rfl) (by kernel_rfl) (fun _ _ _ h => h) (Or.inl ⟨by rfl, fun w' hS' => ?_⟩) (by assumption) ?_
        rotate_left
        · (try dsimp only at hS'); go_simp; (try rw [if_pos (by omega)]); try with_reducible rfl
        try simp only [Act.put, List.getElem_toArray, List.getElem_cons_zero, List.getElem_cons_succ, List.setIfInBounds_toArray, List.set_cons_zero, List.set_cons_succ]
        refine wpAnyH_take (i := 3) (v := ?_) rfl (by kernel_rfl) (by kernel_rfl) (by kernel_rfl) (fun _ _ _ h => h) (Or.inl ⟨by rfl, fun w' hS' => ?_⟩) (by assumption) ?_
        rotate_left
        · (try dsimp only at hS'); go_simp; (try rw [if_pos (by omega)]); try with_reducible rfl
        try simp only [Act.put, List.getElem_toArray, List.getElem_cons_zero, List.getElem_cons_succ, List.setIfInBounds_toArray, List.set_cons_zero, List.set_cons_succ]
        refine wpAnyH_take (i := 4) (v := ?_) rfl (by kernel_rfl) (by kernel_rfl) (by kernel_rfl) (fun _ _ _ h => h) (Or.inl ⟨by rfl, fun w' hS' => ?_⟩) (by assumption) ?_
        rotate_left
        · (try dsimp only at hS'); go_simp; (try rw [if_pos (by omega)]); try with_reducible rfl
        try simp only [Act.put, List.getElem_toArray, List.getElem_cons_zero, List.getElem_cons_succ, List.setIfInBounds_toArray, List.set_cons_zero, List.set_cons_succ]
        refine wpAnyH_take (i := 5) (v := ?_) rfl (by kernel_rfl) (by kernel_rfl) (by kernel_rfl) (fun _ _ _ h => h) (Or.inl ⟨by rfl, fun w' hS' => ?_⟩) (by assumption) ?_
        rotate_left
        · (try dsimp only at hS'); go_simp; (try rw [if_pos (by omega)]); try with_reducible rfl
        try simp only [Act.put, List.getElem_toArray, List.getElem_cons_zero, List.getElem_cons_succ, List.setIfInBounds_toArray, List.set_cons_zero, List.set_cons_succ]
        refine wpAnyH_take (i := 6) (v := ?_) rfl (by kernel_rfl) (by kernel_rfl) (by kernel_rfl) (fun _ _ _ h => h) (Or.inl ⟨by rfl, fun w' hS' => ?_⟩) (by assumption) ?_
        rotate_left
        · (try dsimp only at hS'); go_simp; (try rw [if_pos (by omega)]); try with_reducible rfl
        try simp only [Act.put, List.getElem_toArray, List.getElem_cons_zero, List.getElem_cons_succ, List.setIfInBounds_toArray, List.set_cons_zero, List.set_cons_succ]
        refine wpAnyH_take (i := 7) (v := ?_) rfl (by kernel_rfl) (by kernel_rfl) (by kernel_rfl) (fun _ _ _ h => h) (Or.inl ⟨by rfl, fun w' hS' => ?_⟩) (by assumption) ?_
        rotate_left
        · (try dsimp only at hS'); go_simp; (try rw [if_pos (by omega)]); try with_reducible rfl
        try simp only [Act.put, List.getElem_toArray, List.getElem_cons_zero, List.getElem_cons_succ, List.setIfInBounds_toArray, List.set_cons_zero, List.set_cons_succ]
        refine wpAnyH_take (i := 8) (v := ?_) rfl (by kernel_rfl) (by kernel_rfl) (by kernel_rfl) (fun _ _ _ h => h) (Or.inl ⟨by rfl, fun w' hS' => ?_⟩) (by assumption) ?_
        rotate_left
        · (try dsimp only at hS'); go_simp; (try rw [if_pos (by omega)]); try with_reducible rfl
        try simp only [Act.put, List.getElem_toArray, List.getElem_cons_zero, List.getElem_cons_succ, List.setIfInBounds_toArray, List.set_cons_zero, List.set_cons_succ]
        refine wpAnyH_take (i := 9) (v := ?_) rfl (by kernel_rfl) (by kernel_rfl) (by kernel_rfl) (fun _ _ _ h => h) (Or.inl ⟨by rfl, fun w' hS' => ?_⟩) (by assumption) ?_
        rotate_left
        · (try dsimp only at hS'); go_simp; (try rw [if_pos (by omega)]); try with_reducible rfl
        try simp only [Act.put, List.getElem_toArray, List.getElem_cons_zero, List.getElem_cons_succ, List.setIfInBounds_toArray, List.set_cons_zero, List.set_cons_succ]
        refine wpAnyH_take (i := 10) (v := ?_) rfl (by kernel_rfl) (by kernel_rfl) (by kernel_rfl) (fun _ _ _ h => h) (Or.inl ⟨by rfl, fun w' hS' => ?_⟩) (by assumption) ?_
        rotate_left
        · (try dsimp only at hS'); go_simp; (try rw [if_pos (by omega)]); try with_reducible rfl
        try simp only [Act.put, List.getElem_toArray, List.getElem_cons_zero, List.getElem_cons_succ, List.setIfInBounds_toArray, List.set_cons_zero, List.set_cons_succ]
        refine wpAnyH_take (i := 11) (v := ?_) rfl (by kernel_rfl) (by kernel_rfl) (by kernel_rfl) (fun _ _ _ h => h) (Or.inl ⟨by rfl, fun w' hS' => ?_⟩) (by assumption) ?_
        rotate_left
        · (try dsimp only at hS'); go_simp; (try rw [if_pos (by omega)]); try with_reducible rfl
        try simp only [Act.put, List.getElem_toArray, List.getElem_cons_zero, List.getElem_cons_succ, List.setIfInBounds_toArray, List.set_cons_zero, List.set_cons_succ]
        refine wpAnyH_take (i := 12) (v := ?_) rfl (by kernel_rfl) (by kernel_rfl) (by kernel_rfl) (fun _ _ _ h => h) (Or.inl ⟨by rfl, fun w' hS' => ?_⟩) (by assumption) ?_
        rotate_left
        · (try dsimp only at hS'); go_simp; (try rw [if_pos (by omega)]); try with_reducible rfl
        try simp only [Act.put, List.getElem_toArray, List.getElem_cons_zero, List.getElem_cons_succ, List.setIfInBounds_toArray, List.set_cons_zero, List.set_cons_succ]
        try rw [hw1]
        try rw [hw2]
        refine wpAnyH_done (by kernel_rfl) ?_ _
        refine tail_step rfl (fun K' hK => ?_)
        refine if_yes (by rfl) ?_
        try simp only [Act.put, List.getElem_toArray, List.getElem_cons_zero, List.getElem_cons_succ, List.setIfInBounds_toArray, List.set_cons_zero, List.set_cons_succ]
        go_simp
        refine hK _ _ ?_
        clear hK K'
        try simp only [Act.put, List.getElem_toArray, List.getElem_cons_zero, List.getElem_cons_succ, List.setIfInBounds_toArray, List.set_cons_zero, List.set_cons_succ]
        obtain ⟨w12, hw12, M2, hbw12⟩ := ints_put M.out k (x + s + 1)
        try rw [hw1]
        try rw [hw2]
        rw [← hw12.out]
        clear hHeld cs hgx
        have hB := hB.trans (hbw12 wr.heap.size (by omega))
        have q12 := hB.size
        have hbR := hbw10M.trans (hbw12 w10.heap.size (by omega))
        have R3 := Lib.hid (R2.out.ext hbR)
        have hbw : w10.heap.size ≤ w12.heap.size := hbR.size
        clear R R2 M hw10 hw12 hbw9 hbw10 hbw11 hbw12 hbR hbw10M cRk cMk hzR hzM
        have A2 := A1.ext hB
        obtain ⟨rcA2, rzA2⟩ := (A2).rules; have rlA2 := (A2).lt
        go_wp2_with fail
        obtain ⟨n1, hn1⟩ : ∃ x, Hid (x = (p.by k s).lenOf) := ⟨_, rfl⟩
        obtain ⟨n2, hn2⟩ : ∃ x, Hid (x = (p.by k (s + 1)).lenOf) := ⟨_, rfl⟩
        have h1 : n1 < 0 ∨ n1 = ln := by rw [hn1.out, Hs.out, hln.out]; exact lenOf_two _ _ (by_len hkl)
        have h2 : n2 < 0 ∨ n2 = ln + 1 := by rw [hn2.out, Hs.out, hln.out]; exact lenOf_two _ _ (by_len1 hkl)
        have Hn1 := Lib.hid h1; have Hn2 := Lib.hid h2
        clear h1 h2
        have hset1 : Hid ((p.by k s).lo = p.lo.set k (x + s)) := by rw [Hx.out]; exact Lib.hid rfl
        have hset2 : Hid ((p.by k (s+1)).lo = p.lo.set k (x + s + 1)) := by unfold Pj.by; dsimp only; rw [← Hx.out, show x + (s + 1) = x + s + 1 by omega]; exact Lib.hid rfl
        have hl1 : Hid ((p.lo.set k (x + s)).length = N) := by rw [List.length_set, hN.out]; exact Lib.hid rfl
        have hl2 : Hid ((p.lo.set k (x + s + 1)).length = N) := by rw [List.length_set, hN.out]; exact Lib.hid rfl
        refine (impl_LengthOf (p.by k s) _ _ _ (by rw [hset1.out]; exact R3.out.base (Nat.zero_le _)) ((U1.out.ext hB).base (Nat.zero_le _))).mono ?_
        rintro e w13 ⟨rfl, hbw13⟩
        rw [← hn1.out]
        have hB := hB.trans (hbw13.mono (by omega))
        have qw13 := hbw13.size
        have M3 := Lib.hid (M2.out.ext hbw13)
        clear rcA2 rzA2 rlA2 A2
        have A2 := A1.ext hB
        obtain ⟨rcA2, rzA2⟩ := (A2).rules; have rlA2 := (A2).lt
        go_wp2_with fail
        refine (impl_LengthOf (p.by k (s+1)) _ _ _ (by rw [hset2.out]; exact M3.out.base (Nat.zero_le _)) ((U1.out.ext hB).base (Nat.zero_le _))).mono ?_
        rintro e w14 ⟨rfl, hbw14⟩
        rw [← hn2.out]
        have hB := hB.trans (hbw14.mono (by omega))
        have qw14 := hbw14.size
        clear rcA2 rzA2 rlA2 A2
        have A2 := A1.ext hB
        obtain ⟨rcA2, rzA2⟩ := (A2).rules; have rlA2 := (A2).lt
        have cs : w14.cell? ⟨gx, k, none⟩ = some (.int .i64 s) := by rw [(X1.out.ext hB).cellI hkT, HTa.out k hlt, Hs.out]
        have hgx : gx < w14.heap.size := by have := hB.size; omega
        have hns : ¬ s < 0 := by omega
        have hwl : IntKind.i64.wrap (ln + 1) = ln + 1 := IntWalk.i64_in _ (by omega)
        have hrel : Hid (∀ wz, Below wr.heap.size wr wz → Below w5.heap.size w5 wz) := fun wz hz => ext_trans hbel hz
        rcases Hn1.out with h1 | h1
        all_goals rcases Hn2.out with h2 | h2
        · have h1n : ¬ 0 ≤ n1 := by omega
          have h2n : ¬ 0 ≤ n2 := by omega
          clear h1
          clear h2
          go_wp2_with fail
          go_roundg (N - (k+1))
          case rel => exact ⟨k+1, by omega, rfl, by go_num, hrel.out _ hB⟩
          case measure => have := Hk.out; omega
        · have h1n : ¬ 0 ≤ n1 := by omega
          subst h2
          clear h1
          go_wp2_with fail
          refine (impl_LengthOf p _ _ _ ((V1.out.ext hB).base (Nat.zero_le _)) ((U1.out.ext hB).base (Nat.zero_le _))).mono ?_
          rintro e w15 ⟨rfl, hbw15⟩
          rw [show p.lenOf = p.len from if_pos Hok.out, ← hln.out]
          have hB := hB.trans (hbw15.mono (by have := hB.size; omega))
          clear rcA2 rzA2 rlA2 A2
          have A2 := A1.ext hB
          obtain ⟨rcA2, rzA2⟩ := (A2).rules; have rlA2 := (A2).lt
          go_wp2_with fail
          go_roundg (N - (k+1))
          case rel => exact ⟨k+1, by omega, rfl, by go_num, hrel.out _ hB⟩
          case measure => have := Hk.out; omega
        · subst h1
          have h2n : ¬ 0 ≤ n2 := by omega
          clear h2
          go_wp2_with fail
          refine (impl_LengthOf p _ _ _ ((V1.out.ext hB).base (Nat.zero_le _)) ((U1.out.ext hB).base (Nat.zero_le _))).mono ?_
          rintro e w15 ⟨rfl, hbw15⟩
          rw [show p.lenOf = p.len from if_pos Hok.out, ← hln.out]
          have hB := hB.trans (hbw15.mono (by have := hB.size; omega))
          clear rcA2 rzA2 rlA2 A2
          have A2 := A1.ext hB
          obtain ⟨rcA2, rzA2⟩ := (A2).rules; have rlA2 := (A2).lt
          go_wp2_with fail
          go_roundg (N - (k+1))
          case rel => exact ⟨k+1, by omega, rfl, by go_num, hrel.out _ hB⟩
          case measure => have := Hk.out; omega
        · subst h1
          subst h2
          go_wp2_with fail
          refine (impl_LengthOf p _ _ _ ((V1.out.ext hB).base (Nat.zero_le _)) ((U1.out.ext hB).base (Nat.zero_le _))).mono ?_
          rintro e w15 ⟨rfl, hbw15⟩
          rw [show p.lenOf = p.len from if_pos Hok.out, ← hln.out]
          have hB := hB.trans (hbw15.mono (by have := hB.size; omega))
          clear rcA2 rzA2 rlA2 A2
          have A2 := A1.ext hB
          obtain ⟨rcA2, rzA2⟩ := (A2).rules; have rlA2 := (A2).lt
          go_wp2_with fail
          refine (impl_LengthOf p _ _ _ ((V1.out.ext hB).base (Nat.zero_le _)) ((U1.out.ext hB).base (Nat.zero_le _))).mono ?_
          rintro e w16 ⟨rfl, hbw16⟩
          rw [show p.lenOf = p.len from if_pos Hok.out, ← hln.out]
          have hB := hB.trans (hbw16.mono (by have := hB.size; omega))
          clear rcA2 rzA2 rlA2 A2
          have A2 := A1.ext hB
          obtain ⟨rcA2, rzA2⟩ := (A2).rules; have rlA2 := (A2).lt
          go_wp2_with fail
          go_roundg (N - (k+1))
          case rel => exact ⟨k+1, by omega, rfl, by go_num, hrel.out _ hB⟩
          case measure => have := Hk.out; omega
      · have hkN : N = k := by omega
        subst hkN
        go_wp2_with fail
        refine (laws_hasInt _ T0 0 _ (X1.out.base (Nat.zero_le _))).mono ?_
        rintro e w20 ⟨rfl, hb20⟩
        rw [decide_eq_true (by obtain ⟨j, h1, h2⟩ := some_free Hok.out (by rw [← hN.out]; exact hN0); exact ⟨j, by rw [hTN.out, hN.out]; exact h1, by rw [HTa.out j (by rw [hN.out]; exact h1)]; exact h2⟩)]
        go_wp2_with fail
        go_ret
        exact ⟨rfl, ext_trans E1 hb20⟩
end Go.Proofs.Ytllicgomlohffaa
