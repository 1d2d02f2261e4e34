/- The draws of projects: some two rows of at most 8 numbers. No condition but that the code's bytes can be read. -/
import Derived.Test.YtllicgomlohffaaDrawProj
namespace Go.Proofs.Ytllicgomlohffaa
open Go.RowKit
set_option linter.unusedVariables false
set_option linter.unusedSimpArgs false
def RetDrawnP (w : World) : Ending → World → Prop := fun e w' => ∃ (v1 v2 : Value) (l t : List Int), e = .returned (.agg #[v1, v2]) ∧ Ints w' w.heap.size v1 l ∧ Ints w' w.heap.size v2 t ∧ l.length ≤ 8 ∧ t.length ≤ 8 ∧ Below w.heap.size w w'
set_option maxHeartbeats 1000000 in
theorem spec_DrawEarlyOf (a : Option Addr) (n cap : Nat) (w : World) (h : Byt w w.heap.size a n cap) : Calls Try.prog 19 #[.slice a n cap] w (RetDrawnP w) := by
  have H := Lib.hid h
  clear h
  go_enter Try.func19, Try.ntmps19
  go_wp2_with fail
  obtain ⟨W, hW, B0, hs, E⟩ := one_box w #[.slice none 0 0, .slice none 0 0] 27
  rw [← hW.out]
  refine (spec_l20Open a n cap W w.heap.size (by omega) (H.out.below E)).mono ?_
  rintro e w1 ⟨rfl, R, hb1⟩
  have E1 := ext_trans E hb1
  have B1 := B0.ext hb1
  have R := Lib.hid R
  go_wp2_with fail
  refine (spec_l20Project w.heap.size W.heap.size 0 _ w1 R.out (by omega) (by omega)).mono ?_
  rintro e w2 ⟨v1, v2, l, t, rfl, h1, h2, hl, ht, hg⟩
  have E2 := ext_grown E1 hg (fun k hk => by cases hk; omega)
  have B2 := B1.grown hg (fun e => by injection e with e; omega)
  have hz1 := hb1.size
  obtain ⟨a1, c1, rfl, -⟩ := h1.open
  obtain ⟨a2, c2, rfl, -⟩ := h2.open
  have H1 := Lib.hid h1; have H2 := Lib.hid h2
  clear h1 h2 hb1 hg B0 B1 E1
  obtain ⟨rc2, rz2⟩ := (B2).rules; have rl2 := (B2).lt
  go_wp2_with fail
  refine bodyPost_ret (v := .agg #[.slice a1 l.length c1, .slice a2 t.length c2]) (by simp [results, Try.results19, go_sem, *]) rfl ?_
  exact ⟨_, _, l, t, rfl, ((H1.out.low (by dsimp only; omega) _).low (by dsimp only; omega) _).base (by omega), ((H2.out.low (by dsimp only; omega) _).low (by dsimp only; omega) _).base (by omega), hl, ht, ext_set (ext_set E2 (Nat.le_refl _) _) (Nat.le_refl _) _⟩
set_option maxHeartbeats 1000000 in
theorem spec_DrawLengthOf (a : Option Addr) (n cap : Nat) (w : World) (h : Byt w w.heap.size a n cap) : Calls Try.prog 25 #[.slice a n cap] w (RetDrawnP w) := by
  have H := Lib.hid h
  clear h
  go_enter Try.func25, Try.ntmps25
  go_wp2_with fail
  obtain ⟨W, hW, B0, hs, E⟩ := one_box w #[.slice none 0 0, .slice none 0 0] 27
  rw [← hW.out]
  refine (spec_l20Open a n cap W w.heap.size (by omega) (H.out.below E)).mono ?_
  rintro e w1 ⟨rfl, R, hb1⟩
  have E1 := ext_trans E hb1
  have B1 := B0.ext hb1
  have R := Lib.hid R
  go_wp2_with fail
  refine (spec_l20Project w.heap.size W.heap.size 0 _ w1 R.out (by omega) (by omega)).mono ?_
  rintro e w2 ⟨v1, v2, l, t, rfl, h1, h2, hl, ht, hg⟩
  have E2 := ext_grown E1 hg (fun k hk => by cases hk; omega)
  have B2 := B1.grown hg (fun e => by injection e with e; omega)
  have hz1 := hb1.size
  obtain ⟨a1, c1, rfl, -⟩ := h1.open
  obtain ⟨a2, c2, rfl, -⟩ := h2.open
  have H1 := Lib.hid h1; have H2 := Lib.hid h2
  clear h1 h2 hb1 hg B0 B1 E1
  obtain ⟨rc2, rz2⟩ := (B2).rules; have rl2 := (B2).lt
  go_wp2_with fail
  refine bodyPost_ret (v := .agg #[.slice a1 l.length c1, .slice a2 t.length c2]) (by simp [results, Try.results25, go_sem, *]) rfl ?_
  exact ⟨_, _, l, t, rfl, ((H1.out.low (by dsimp only; omega) _).low (by dsimp only; omega) _).base (by omega), ((H2.out.low (by dsimp only; omega) _).low (by dsimp only; omega) _).base (by omega), hl, ht, ext_set (ext_set E2 (Nat.le_refl _) _) (Nat.le_refl _) _⟩
set_option maxHeartbeats 1000000 in
theorem spec_DrawLateOf (a : Option Addr) (n cap : Nat) (w : World) (h : Byt w w.heap.size a n cap) : Calls Try.prog 32 #[.slice a n cap] w (RetDrawnP w) := by
  have H := Lib.hid h
  clear h
  go_enter Try.func32, Try.ntmps32
  go_wp2_with fail
  obtain ⟨W, hW, B0, hs, E⟩ := one_box w #[.slice none 0 0, .slice none 0 0] 27
  rw [← hW.out]
  refine (spec_l20Open a n cap W w.heap.size (by omega) (H.out.below E)).mono ?_
  rintro e w1 ⟨rfl, R, hb1⟩
  have E1 := ext_trans E hb1
  have B1 := B0.ext hb1
  have R := Lib.hid R
  go_wp2_with fail
  refine (spec_l20Project w.heap.size W.heap.size 0 _ w1 R.out (by omega) (by omega)).mono ?_
  rintro e w2 ⟨v1, v2, l, t, rfl, h1, h2, hl, ht, hg⟩
  have E2 := ext_grown E1 hg (fun k hk => by cases hk; omega)
  have B2 := B1.grown hg (fun e => by injection e with e; omega)
  have hz1 := hb1.size
  obtain ⟨a1, c1, rfl, -⟩ := h1.open
  obtain ⟨a2, c2, rfl, -⟩ := h2.open
  have H1 := Lib.hid h1; have H2 := Lib.hid h2
  clear h1 h2 hb1 hg B0 B1 E1
  obtain ⟨rc2, rz2⟩ := (B2).rules; have rl2 := (B2).lt
  go_wp2_with fail
  refine bodyPost_ret (v := .agg #[.slice a1 l.length c1, .slice a2 t.length c2]) (by simp [results, Try.results32, go_sem, *]) rfl ?_
  exact ⟨_, _, l, t, rfl, ((H1.out.low (by dsimp only; omega) _).low (by dsimp only; omega) _).base (by omega), ((H2.out.low (by dsimp only; omega) _).low (by dsimp only; omega) _).base (by omega), hl, ht, ext_set (ext_set E2 (Nat.le_refl _) _) (Nat.le_refl _) _⟩
set_option maxHeartbeats 1000000 in
theorem spec_DrawSparesOf (a : Option Addr) (n cap : Nat) (w : World) (h : Byt w w.heap.size a n cap) : Calls Try.prog 35 #[.slice a n cap] w (RetDrawnP w) := by
  have H := Lib.hid h
  clear h
  go_enter Try.func35, Try.ntmps35
  go_wp2_with fail
  obtain ⟨W, hW, B0, hs, E⟩ := one_box w #[.slice none 0 0, .slice none 0 0] 27
  rw [← hW.out]
  refine (spec_l20Open a n cap W w.heap.size (by omega) (H.out.below E)).mono ?_
  rintro e w1 ⟨rfl, R, hb1⟩
  have E1 := ext_trans E hb1
  have B1 := B0.ext hb1
  have R := Lib.hid R
  go_wp2_with fail
  refine (spec_l20Project w.heap.size W.heap.size 0 _ w1 R.out (by omega) (by omega)).mono ?_
  rintro e w2 ⟨v1, v2, l, t, rfl, h1, h2, hl, ht, hg⟩
  have E2 := ext_grown E1 hg (fun k hk => by cases hk; omega)
  have B2 := B1.grown hg (fun e => by injection e with e; omega)
  have hz1 := hb1.size
  obtain ⟨a1, c1, rfl, -⟩ := h1.open
  obtain ⟨a2, c2, rfl, -⟩ := h2.open
  have H1 := Lib.hid h1; have H2 := Lib.hid h2
  clear h1 h2 hb1 hg B0 B1 E1
  obtain ⟨rc2, rz2⟩ := (B2).rules; have rl2 := (B2).lt
  go_wp2_with fail
  refine bodyPost_ret (v := .agg #[.slice a1 l.length c1, .slice a2 t.length c2]) (by simp [results, Try.results35, go_sem, *]) rfl ?_
  exact ⟨_, _, l, t, rfl, ((H1.out.low (by dsimp only; omega) _).low (by dsimp only; omega) _).base (by omega), ((H2.out.low (by dsimp only; omega) _).low (by dsimp only; omega) _).base (by omega), hl, ht, ext_set (ext_set E2 (Nat.le_refl _) _) (Nat.le_refl _) _⟩
set_option maxHeartbeats 1000000 in
theorem spec_DrawChainOf (a : Option Addr) (n cap : Nat) (w : World) (h : Byt w w.heap.size a n cap) : Calls Try.prog 39 #[.slice a n cap] w (RetDrawnP w) := by
  have H := Lib.hid h
  clear h
  go_enter Try.func39, Try.ntmps39
  go_wp2_with fail
  obtain ⟨W, hW, B0, hs, E⟩ := one_box w #[.slice none 0 0, .slice none 0 0] 27
  rw [← hW.out]
  refine (spec_l20Open a n cap W w.heap.size (by omega) (H.out.below E)).mono ?_
  rintro e w1 ⟨rfl, R, hb1⟩
  have E1 := ext_trans E hb1
  have B1 := B0.ext hb1
  have R := Lib.hid R
  go_wp2_with fail
  refine (spec_l20Project w.heap.size W.heap.size 0 _ w1 R.out (by omega) (by omega)).mono ?_
  rintro e w2 ⟨v1, v2, l, t, rfl, h1, h2, hl, ht, hg⟩
  have E2 := ext_grown E1 hg (fun k hk => by cases hk; omega)
  have B2 := B1.grown hg (fun e => by injection e with e; omega)
  have hz1 := hb1.size
  obtain ⟨a1, c1, rfl, -⟩ := h1.open
  obtain ⟨a2, c2, rfl, -⟩ := h2.open
  have H1 := Lib.hid h1; have H2 := Lib.hid h2
  clear h1 h2 hb1 hg B0 B1 E1
  obtain ⟨rc2, rz2⟩ := (B2).rules; have rl2 := (B2).lt
  go_wp2_with fail
  refine bodyPost_ret (v := .agg #[.slice a1 l.length c1, .slice a2 t.length c2]) (by simp [results, Try.results39, go_sem, *]) rfl ?_
  exact ⟨_, _, l, t, rfl, ((H1.out.low (by dsimp only; omega) _).low (by dsimp only; omega) _).base (by omega), ((H2.out.low (by dsimp only; omega) _).low (by dsimp only; omega) _).base (by omega), hl, ht, ext_set (ext_set E2 (Nat.le_refl _) _) (Nat.le_refl _) _⟩
end Go.Proofs.Ytllicgomlohffaa
