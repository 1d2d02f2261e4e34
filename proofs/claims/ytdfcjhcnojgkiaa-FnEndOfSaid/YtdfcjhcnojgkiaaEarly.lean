/- The walks of the earliest begins: impl.early and spec.l9Early return Pj.early. Conditions: the project is one, and its numbers can be read. -/
import Derived.Test.YtdfcjhcnojgkiaaProj
namespace Go.Proofs.Ytdfcjhcnojgkiaa
open Go.RowKit
set_option linter.unusedVariables false
set_option linter.unusedSimpArgs false
theorem ints_made (n : Nat) : (madeCells #[Value.int .i64 0] (n * 1)).toList = (List.replicate n (0 : Int)).map (Value.int .i64) := by
  apply List.ext_getElem?
  intro i
  by_cases hi : i < n
  · have : i % 1 = 0 := Nat.mod_one i
    simp [madeCells, hi, this, List.getElem?_replicate]
  · simp [madeCells, hi, List.getElem?_replicate]
/-- the earliest begins of a project -/
def Pj.early (p : Pj) : List Int := earlyL p.L p.A p.lo.length
def eOf (p : Pj) (i : Nat) : Nat → Int := fun j => (earlyL p.L p.A i).getD j 0
theorem sum_le {L : Nat → Int} : ∀ n, (∀ j, j < n → L j ≤ 20) → sumUp L n ≤ 20 * n
  | 0, _ => by simp [sumUp]
  | n+1, h => by have := sum_le n fun j hj => h j (by omega); have := h n (by omega); show sumUp L n + L n ≤ _; omega
theorem e_in {p : Pj} (h : p.ok = true) {i : Nat} (hi : i ≤ p.lo.length) : ∀ j, j < i → 0 ≤ eOf p i j ∧ eOf p i j ≤ 120 := by
  obtain ⟨h1, h2, h3, h4⟩ := ok_upto h
  intro j hj
  have he := earlyL_early p.L p.A i
  refine ⟨he.pos j hj, ?_⟩
  have := early_sum he (fun k hk => by have := h3 k (by omega); omega) j hj
  have := sum_le j fun k hk => (h3 k (by omega)).2
  show (earlyL p.L p.A i).getD j 0 ≤ 120
  omega
theorem start_in {p : Pj} (h : p.ok = true) {i : Nat} (hi : i ≤ p.lo.length) (x : Nat) : ∀ k, k ≤ i → 0 ≤ startUp p.L p.A (eOf p i) x k ∧ startUp p.L p.A (eOf p i) x k ≤ 140 := by
  intro k
  induction k with
  | zero => intro _; exact ⟨Int.le_refl _, by show (0 : Int) ≤ 140; decide⟩
  | succ k ih =>
    intro hk
    have := ih (by omega)
    have := e_in h hi k (by omega)
    obtain ⟨h1, h2, h3, h4⟩ := ok_upto h
    have := h3 k (by omega)
    unfold startUp
    split <;> omega
theorem fill_get {l : List Int} {n i : Nat} (hl : l.length = i) (j : Nat) : (l ++ List.replicate (n - i) (0 : Int)).getD j 0 = if j < i then l.getD j 0 else 0 := by
  split
  · rename_i h; exact getD_app_lt l _ j 0 (by omega)
  · rename_i h
    rw [List.getD_eq_getElem?_getD, List.getElem?_append_right (by omega), List.getElem?_replicate]
    split <;> rfl
theorem set_same (l : List Int) (i : Nat) (hi : i < l.length) : l.set i (l.getD i 0) = l := by
  apply List.ext_getElem (by simp)
  intro j h1 h2
  by_cases hj : i = j
  · subst hj; simp [hi]
  · rw [List.getElem_set_ne hj]
theorem fill_early (L A : Nat → Int) (n i : Nat) (hi : i < n) : (earlyL L A i ++ List.replicate (n - i) (0 : Int)).set i (startUp L A (fun j => (earlyL L A i).getD j 0) i i) = earlyL L A (i+1) ++ List.replicate (n - (i+1)) 0 := by
  have hl := earlyL_length L A i
  rw [List.set_append_right _ _ (by omega), hl, Nat.sub_self, show n - i = (n - (i+1)) + 1 by omega, List.replicate_succ, List.set_cons_zero]
  simp [earlyL]
/-- the row while task i's begin is found, the first k tasks before it looked at -/
def midRow (p : Pj) (n i k : Nat) : List Int := (earlyL p.L p.A i ++ List.replicate (n - i) (0 : Int)).set i (startUp p.L p.A (eOf p i) i k)
theorem midRow_length (p : Pj) (n i k : Nat) (hi : i ≤ n) : (midRow p n i k).length = n := by
  have := earlyL_length p.L p.A i
  simp [midRow]; omega
theorem midRow_at (p : Pj) (n i k : Nat) (hi : i < n) : (midRow p n i k).getD i 0 = startUp p.L p.A (eOf p i) i k := by
  have := midRow_length p n i k (by omega)
  have hl := earlyL_length p.L p.A i
  rw [List.getD_eq_getElem?_getD, midRow, List.getElem?_set_self (by simp; omega)]; rfl
theorem midRow_old (p : Pj) (n i k j : Nat) (hi : i < n) (hj : j < i) : (midRow p n i k).getD j 0 = eOf p i j := by
  have hl := earlyL_length p.L p.A i
  rw [List.getD_eq_getElem?_getD, midRow, List.getElem?_set_ne (by omega), ← List.getD_eq_getElem?_getD, fill_get hl, if_pos hj]; rfl
theorem midRow_zero (p : Pj) (n i : Nat) (hi : i < n) : midRow p n i 0 = earlyL p.L p.A i ++ List.replicate (n - i) (0 : Int) := by
  have hl := earlyL_length p.L p.A i
  have h := set_same (earlyL p.L p.A i ++ List.replicate (n - i) (0 : Int)) i (by simp; omega)
  rw [fill_get hl, if_neg (by omega)] at h
  exact h
theorem midRow_full (p : Pj) (n i : Nat) (hi : i < n) : midRow p n i i = earlyL p.L p.A (i+1) ++ List.replicate (n - (i+1)) (0 : Int) := fill_early p.L p.A n i hi
theorem midRow_next (p : Pj) (n i k : Nat) (x y : Int) (hb : bit (p.A i) k = true) (hx : x = eOf p i k) (hy : y = p.L k) : (midRow p n i k).set i (max (startUp p.L p.A (eOf p i) i k) (x + y)) = midRow p n i (k+1) := by
  rw [hx, hy]
  simp [midRow, startUp, hb]
theorem midRow_skip (p : Pj) (n i k : Nat) (hb : bit (p.A i) k = false) : midRow p n i (k+1) = midRow p n i k := by simp [midRow, startUp, hb]
theorem midRow_set (p : Pj) (n i k : Nat) (x : Int) : (midRow p n i k).set i x = (earlyL p.L p.A i ++ List.replicate (n - i) (0 : Int)).set i x := by simp [midRow]
set_option maxRecDepth 100000 in
set_option maxHeartbeats 4000000 in
theorem impl_early (p : Pj) (v1 v2 : Value) (w : World) (h1 : Ints w 0 v1 p.lo) (h2 : Ints w 0 v2 p.af) (hok : p.ok = true) :
    Calls Try.prog 54 #[.agg #[v1, v2]] w (RetInts w p.early) := by
  have H1 := Lib.hid h1; have H2 := Lib.hid h2; have Hok := Lib.hid hok
  obtain ⟨a1, c1, rfl, hn1, hc1, -⟩ := h1.open
  obtain ⟨a2, c2, rfl, hn2, hc2, -⟩ := h2.open
  obtain ⟨hl6, haf, hLs, hAs⟩ := ok_upto hok
  have Haf := Lib.hid haf; have HLs := Lib.hid hLs; have HAs := Lib.hid hAs
  obtain ⟨n, hn⟩ : ∃ n, Hid (n = p.lo.length) := ⟨_, rfl⟩
  obtain ⟨i0, hi, hz0, hz1, hz2⟩ := info_parts info_int
  have Hi := Lib.hid hi; have Hz0 := Lib.hid hz0; have Hz1 := Lib.hid hz1; have Hz2 := Lib.hid hz2
  rw [← hn.out] at hl6 hn1 ⊢
  have haf2 : Hid (p.af.length = n) := by rw [hn.out]; exact haf
  clear h1 h2 hok haf hLs hAs hi hz0 hz1 hz2
  go_enter Try.func54, Try.ntmps54
  go_wp2_with (at_make; refine wpList_make_full _ rfl (.tmp 8) (.tmp 8) 22 rfl w.heap.size 3 i0 _ 1 Try.underlying22 Hi.out Hz0.out Hz1.out .i64 .i64 n n n rfl rfl rfl rfl (by rw [Hz2.out]; omega) (by unfold maxLen; omega) (by simp) ?_; intro w1 hown hgrow)
  have A0 := Box.new w 27 #[.slice a1 n c1, .slice a2 p.af.length c2]
  have E0 := ext_alloc (ext_refl w) (.cells #[.slice a1 n c1, .slice a2 p.af.length c2] 27)
  have A0 := A0.grown hgrow (by simp)
  have E := ext_grown E0 hgrow (by simp)
  clear E0
  have R : Hid (Ints w1 w.heap.size (.slice (some ⟨w.heap.size + 1, 0, none⟩) n n) (earlyL p.L p.A 0 ++ List.replicate (n - 0) (0 : Int))) := by
    show Ints _ _ _ _
    unfold Ints
    rw [show (earlyL p.L p.A 0 ++ List.replicate (n - 0) (0 : Int)) = List.replicate n 0 from by simp [earlyL], ← ints_made, List.length_replicate]
    have h := hown
    rw [World.size_alloc] at h
    exact h
  have hz1 := hgrow.size
  simp only [World.size_alloc] at hz1
  clear hown hgrow
  go_loopg [12] n (fun m k wr => ∃ i : Nat, i ≤ n ∧ m = n - i ∧ k = .int .i64 i ∧ Hid (Ints wr w.heap.size (.slice (some ⟨w.heap.size + 1, 0, none⟩) n n) (earlyL p.L p.A i ++ List.replicate (n - i) (0 : Int))) ∧
    Box wr w.heap.size 27 #[.slice a1 n c1, .slice a2 p.af.length c2] ∧ Below w.heap.size w wr)
  case atStart => exact ⟨0, by omega, by omega, rfl, R, A0, E⟩
  case round =>
    clear R A0 E
    obtain ⟨i, hi, hgk, rfl, R, A0, E⟩ := hrel
    have Hk := Lib.hid hgk
    clear hgk
    by_cases hlt : i < n
    · go_wp2_with fail
      have R : Hid (Ints wr w.heap.size (.slice (some ⟨w.heap.size + 1, 0, none⟩) n n) (midRow p n i 0)) := by rw [midRow_zero p n i hlt]; exact R
      go_loopg [16] i (fun m kk wx => ∃ k : Nat, k ≤ i ∧ m = i - k ∧ kk = .int .i64 k ∧ Hid (Ints wx w.heap.size (.slice (some ⟨w.heap.size + 1, 0, none⟩) n n) (midRow p n i k)) ∧
        Box wx w.heap.size 27 #[.slice a1 n c1, .slice a2 p.af.length c2] ∧ Below w.heap.size w wx)
      case atStart => exact ⟨0, by omega, by omega, rfl, R, A0, E⟩
      case round =>
        clear R A0 E
        rename World => wx
        obtain ⟨k, hk, hgk, rfl, R, A0, E⟩ := hrel
        have Hkk := Lib.hid hgk
        clear hgk
        by_cases hlk : k < i
        · obtain ⟨rc0, rz0⟩ := (A0).rules; have rl0 := (A0).lt
          go_wp2_with fail
          have hAi := HAs.out i (by rw [← hn.out]; exact hlt)
          have hA1 : p.A i ≤ 1048576 := by
            have key : ∀ m : Fin 7, (2 : Int) ^ m.val ≤ 64 := by decide
            have := key ⟨i, by omega⟩
            dsimp only at this
            omega
          refine (impl_after p (.slice a1 n c1) (.slice a2 p.af.length c2) i k _ (by have := H1.out.ext E; rw [hn.out]; exact this) (H2.out.ext E) (by have := haf2.out; omega) (by omega) ⟨hAi.1, hA1⟩).mono ?_
          rintro e w3 ⟨rfl, hb3⟩
          have R := Lib.hid (R.out.ext hb3)
          have A0 := A0.ext hb3
          have E := ext_trans E hb3
          clear hb3 rc0 rz0 rl0 hAi hA1
          cases hb : bit (p.A i) k
          · go_wp2_with fail
            go_roundg (i - (k+1))
            case rel => exact ⟨k+1, by omega, rfl, by go_num, by rw [midRow_skip p n i k hb]; exact R, A0, E⟩
            case measure => have := Hkk.out; omega
          · have Hb := Lib.hid hb
            clear hb
            have hml := midRow_length p n i k (by omega)
            obtain ⟨_, he, _, hG, hfz, ci⟩ := R.out.at_ (j := i) (by omega)
            cases he
            obtain ⟨_, he, _, _, _, ck⟩ := R.out.at_ (j := k) (by omega)
            cases he
            have hkn : k < p.lo.length := by rw [← hn.out]; omega
            obtain ⟨g1, ha1, _, hg1, _, cy⟩ := (H1.out.ext E).at_ (j := k) hkn
            subst ha1
            rw [midRow_at p n i k hlt] at ci
            rw [midRow_old p n i k k hlt hlk] at ck
            have hs := start_in Hok.out (i := i) (by rw [← hn.out]; omega) i k (by omega)
            have hx := e_in Hok.out (i := i) (by rw [← hn.out]; omega) k hlk
            have hy := HLs.out k hkn
            obtain ⟨s, Hs⟩ : ∃ s, Hid (s = startUp p.L p.A (eOf p i) i k) := ⟨_, rfl⟩
            obtain ⟨x, Hx⟩ : ∃ x, Hid (x = eOf p i k) := ⟨_, rfl⟩
            obtain ⟨y, Hy⟩ : ∃ y, Hid (y = p.L k) := ⟨_, rfl⟩
            rw [← Hs.out] at ci hs
            rw [← Hx.out] at ck hx
            rw [show p.lo.getD k 0 = y from Hy.out.symm] at cy
            rw [← Hy.out] at hy
            clear hml hkn
            have hw : IntKind.i64.wrap (x + y) = x + y := IntWalk.i64_in _ (by omega)
            go_wp2_with fail
            by_cases hmx : x + y ≤ s
            · refine wp_region_tail 18 (by kernel_rfl) (by kernel_rfl) (fun w' => w'.cell? ⟨w.heap.size, 0, none⟩ = some (.slice (some ⟨g1, 0, none⟩) n c1) ∧ w'.cell? ⟨w.heap.size + 1, i, none⟩ = some (.int .i64 s) ∧ w'.cell? ⟨w.heap.size + 1, k, none⟩ = some (.int .i64 x) ∧ w'.cell? ⟨g1, k, none⟩ = some (.int .i64 y)) ?_ ?_
              · exact ⟨A0.cell0 rfl, ci, ck, cy⟩
              intro hHeld
              simp only [List.pop_toArray, List.dropLast]
              refine wpAnyH_take (i := 0) (v := ?_) rfl (by kernel_rfl) (by kernel_rfl) (by kernel_rfl) (fun _ _ _ h => h) (Or.inl ⟨by rfl, fun w' hS' => ?_⟩) (by assumption) ?_
              rotate_left
              · (try dsimp only at hS'); go_simp; (try rw [if_pos (by omega)]); try with_reducible rfl
              try simp only [Act.put, List.getElem_toArray, List.getElem_cons_zero, List.getElem_cons_succ, List.setIfInBounds_toArray, List.set_cons_zero, List.set_cons_succ]
              refine wpAnyH_take (i := 1) (v := ?_) rfl (by kernel_rfl) (by kernel_rfl) (by kernel_rfl) (fun _ _ _ h => h) (Or.inl ⟨by rfl, fun w' hS' => ?_⟩) (by assumption) ?_
              rotate_left
              · (try dsimp only at hS'); go_simp; (try rw [if_pos (by omega)]); try with_reducible rfl
              try simp only [Act.put, List.getElem_toArray, List.getElem_cons_zero, List.getElem_cons_succ, List.setIfInBounds_toArray, List.set_cons_zero, List.set_cons_succ]
              refine wpAnyH_take (i := 2) (v := ?_) rfl (by kernel_rfl) (by kernel_rfl) (by kernel_rfl) (fun _ _ _ h => h) (Or.inl ⟨by rfl, fun w' hS' => ?_⟩) (by assumption) ?_
              rotate_left
              · (try dsimp only at hS'); go_simp; (try rw [if_pos (by omega)]); try with_reducible rfl
              try simp only [Act.put, List.getElem_toArray, List.getElem_cons_zero, List.getElem_cons_succ, List.setIfInBounds_toArray, List.set_cons_zero, List.set_cons_succ]
              refine wpAnyH_take (i := 3) (v := ?_) rfl (by kernel_rfl) (by kernel_rfl) (by kernel_rfl) (fun _ _ _ h => h) (Or.inl ⟨by rfl, fun w' hS' => ?_⟩) (by assumption) ?_
              rotate_left
              · (try dsimp only at hS'); go_simp; (try rw [if_pos (by omega)]); try with_reducible rfl
              try simp only [Act.put, List.getElem_toArray, List.getElem_cons_zero, List.getElem_cons_succ, List.setIfInBounds_toArray, List.set_cons_zero, List.set_cons_succ]
              refine wpAnyH_take (i := 4) (v := ?_) rfl (by kernel_rfl) (by kernel_rfl) (by kernel_rfl) (fun _ _ _ h => h) (Or.inl ⟨by rfl, fun w' hS' => ?_⟩) (by assumption) ?_
              rotate_left
              · (try dsimp only at hS'); go_simp; (try rw [if_pos (by omega)]); try with_reducible rfl
              try simp only [Act.put, List.getElem_toArray, List.getElem_cons_zero, List.getElem_cons_succ, List.setIfInBounds_toArray, List.set_cons_zero, List.set_cons_succ]
              refine wpAnyH_take (i := 5) (v := ?_) rfl (by kernel_rfl) (by kernel_rfl) (by kernel_rfl) (fun _ _ _ h => h) (Or.inl ⟨by rfl, fun w' hS' => ?_⟩) (by assumption) ?_
              rotate_left
              · (try dsimp only at hS'); go_simp; (try rw [if_pos (by omega)]); try with_reducible rfl
              try simp only [Act.put, List.getElem_toArray, List.getElem_cons_zero, List.getElem_cons_succ, List.setIfInBounds_toArray, List.set_cons_zero, List.set_cons_succ]
              refine wpAnyH_take (i := 6) (v := ?_) rfl (by kernel_rfl) (by kernel_rfl) (by kernel_rfl) (fun _ _ _ h => h) (Or.inl ⟨by rfl, fun w' hS' => ?_⟩) (by assumption) ?_
              rotate_left
              · (try dsimp only at hS'); go_simp; (try rw [if_pos (by omega)]); try with_reducible rfl
              try simp only [Act.put, List.getElem_toArray, List.getElem_cons_zero, List.getElem_cons_succ, List.setIfInBounds_toArray, List.set_cons_zero, List.set_cons_succ]
              refine wpAnyH_take (i := 7) (v := ?_) rfl (by kernel_rfl) (by kernel_rfl) (by kernel_rfl) (fun _ _ _ h => h) (Or.inl ⟨by rfl, fun w' hS' => ?_⟩) (by assumption) ?_
              rotate_left
              · (try dsimp only at hS'); go_simp; (try rw [if_pos (by omega)]); try with_reducible rfl
              try simp only [Act.put, List.getElem_toArray, List.getElem_cons_zero, List.getElem_cons_succ, List.setIfInBounds_toArray, List.set_cons_zero, List.set_cons_succ]
              refine wpAnyH_take (i := 8) (v := ?_) rfl (by kernel_rfl) (by kernel_rfl) (by kernel_rfl) (fun _ _ _ h => h) (Or.inl ⟨by rfl, fun w' hS' => ?_⟩) (by assumption) ?_
              rotate_left
              · (try dsimp only at hS'); go_simp; (try rw [if_pos (by omega)]); try with_reducible rfl
              try simp only [Act.put, List.getElem_toArray, List.getElem_cons_zero, List.getElem_cons_succ, List.setIfInBounds_toArray, List.set_cons_zero, List.set_cons_succ]
              refine wpAnyH_take (i := 9) (v := ?_) rfl (by kernel_rfl) (by kernel_rfl) (by kernel_rfl) (fun _ _ _ h => h) (Or.inl ⟨by rfl, fun w' hS' => ?_⟩) (by assumption) ?_
              rotate_left
              · (try dsimp only at hS'); go_simp; (try rw [if_pos (by omega)]); try with_reducible rfl
              try simp only [Act.put, List.getElem_toArray, List.getElem_cons_zero, List.getElem_cons_succ, List.setIfInBounds_toArray, List.set_cons_zero, List.set_cons_succ]
              refine wpAnyH_take (i := 10) (v := ?_) rfl (by kernel_rfl) (by kernel_rfl) (by kernel_rfl) (fun _ _ _ h => h) (Or.inl ⟨by rfl, fun w' hS' => ?_⟩) (by assumption) ?_
              rotate_left
              · (try dsimp only at hS'); go_simp; (try rw [if_pos (by omega)]); try with_reducible rfl
              try simp only [Act.put, List.getElem_toArray, List.getElem_cons_zero, List.getElem_cons_succ, List.setIfInBounds_toArray, List.set_cons_zero, List.set_cons_succ]
              refine wpAnyH_take (i := 11) (v := ?_) rfl (by kernel_rfl) (by kernel_rfl) (by kernel_rfl) (fun _ _ _ h => h) (Or.inl ⟨by rfl, fun w' hS' => ?_⟩) (by assumption) ?_
              rotate_left
              · (try dsimp only at hS'); go_simp; (try rw [if_pos (by omega)]); try with_reducible rfl
              try simp only [Act.put, List.getElem_toArray, List.getElem_cons_zero, List.getElem_cons_succ, List.setIfInBounds_toArray, List.set_cons_zero, List.set_cons_succ]
              refine wpAnyH_take (i := 12) (v := ?_) rfl (by kernel_rfl) (by kernel_rfl) (by kernel_rfl) (fun _ _ _ h => h) (Or.inl ⟨by rfl, fun w' hS' => ?_⟩) (by assumption) ?_
              rotate_left
              · (try dsimp only at hS'); go_simp; (try rw [if_pos (by omega)]); try with_reducible rfl
              try simp only [Act.put, List.getElem_toArray, List.getElem_cons_zero, List.getElem_cons_succ, List.setIfInBounds_toArray, List.set_cons_zero, List.set_cons_succ]
              refine wpAnyH_take (i := 13) (v := ?_) rfl (by kernel_rfl) (by kernel_rfl) (by kernel_rfl) (fun _ _ _ h => h) (Or.inl ⟨by rfl, fun w' hS' => ?_⟩) (by assumption) ?_
              rotate_left
              · (try dsimp only at hS'); go_simp; (try rw [if_pos (by omega)]); try with_reducible rfl
              try simp only [Act.put, List.getElem_toArray, List.getElem_cons_zero, List.getElem_cons_succ, List.setIfInBounds_toArray, List.set_cons_zero, List.set_cons_succ]
              refine wpAnyH_take (i := 14) (v := ?_) rfl (by kernel_rfl) (by kernel_rfl) (by kernel_rfl) (fun _ _ _ h => h) (Or.inl ⟨by rfl, fun w' hS' => ?_⟩) (by assumption) ?_
              rotate_left
              · (try dsimp only at hS'); go_simp; (try rw [if_pos (by omega)]); try with_reducible rfl
              try simp only [Act.put, List.getElem_toArray, List.getElem_cons_zero, List.getElem_cons_succ, List.setIfInBounds_toArray, List.set_cons_zero, List.set_cons_succ]
              refine wpAnyH_take (i := 15) (v := ?_) rfl (by kernel_rfl) (by kernel_rfl) (by kernel_rfl) (fun _ _ _ h => h) (Or.inl ⟨by rfl, fun w' hS' => ?_⟩) (by assumption) ?_
              rotate_left
              · (try dsimp only at hS'); go_simp; (try rw [if_pos (by omega)]); try with_reducible rfl
              try simp only [Act.put, List.getElem_toArray, List.getElem_cons_zero, List.getElem_cons_succ, List.setIfInBounds_toArray, List.set_cons_zero, List.set_cons_succ]
              refine wpAnyH_take (i := 16) (v := ?_) rfl (by kernel_rfl) (by kernel_rfl) (by kernel_rfl) (fun _ _ _ h => h) (Or.inl ⟨by rfl, fun w' hS' => ?_⟩) (by assumption) ?_
              rotate_left
              · (try dsimp only at hS'); go_simp; (try rw [if_pos (by omega)]); try with_reducible rfl
              try simp only [Act.put, List.getElem_toArray, List.getElem_cons_zero, List.getElem_cons_succ, List.setIfInBounds_toArray, List.set_cons_zero, List.set_cons_succ]
              refine wpAnyH_take (i := 17) (v := ?_) rfl (by kernel_rfl) (by kernel_rfl) (by kernel_rfl) (fun _ _ _ h => h) (Or.inl ⟨by rfl, fun w' hS' => ?_⟩) (by assumption) ?_
              rotate_left
              · (try dsimp only at hS'); go_simp; (try rw [if_pos (by omega)]); try with_reducible rfl
              try simp only [Act.put, List.getElem_toArray, List.getElem_cons_zero, List.getElem_cons_succ, List.setIfInBounds_toArray, List.set_cons_zero, List.set_cons_succ]
              refine wpAnyH_done (by kernel_rfl) ?_ _
              refine tail_step rfl (fun K' hK => ?_)
              refine if_yes (by rfl) ?_
              try simp only [Act.put, List.getElem_toArray, List.getElem_cons_zero, List.getElem_cons_succ, List.setIfInBounds_toArray, List.set_cons_zero, List.set_cons_succ]
              go_simp
              refine hK _ _ ?_
              clear hK K'
              try simp only [Act.put, List.getElem_toArray, List.getElem_cons_zero, List.getElem_cons_succ, List.setIfInBounds_toArray, List.set_cons_zero, List.set_cons_succ]
              go_wp2_with fail
              go_roundg (i - (k+1))
              case rel =>
                refine ⟨k+1, by omega, rfl, by go_num, ?_, (A0.far (by simp) _).drew, ext_drew (ext_set E (by simp) _)⟩
                rw [← midRow_next p n i k x y Hb.out Hx.out Hy.out, ← Hs.out, Int.max_eq_left hmx]
                exact Lib.hid (R.out.set i s).drew
              case measure => have := Hkk.out; omega
            · refine wp_region_tail 18 (by kernel_rfl) (by kernel_rfl) (fun w' => w'.cell? ⟨w.heap.size, 0, none⟩ = some (.slice (some ⟨g1, 0, none⟩) n c1) ∧ w'.cell? ⟨w.heap.size + 1, i, none⟩ = some (.int .i64 s) ∧ w'.cell? ⟨w.heap.size + 1, k, none⟩ = some (.int .i64 x) ∧ w'.cell? ⟨g1, k, none⟩ = some (.int .i64 y)) ?_ ?_
              · exact ⟨A0.cell0 rfl, ci, ck, cy⟩
              intro hHeld
              simp only [List.pop_toArray, List.dropLast]
              refine wpAnyH_take (i := 0) (v := ?_) rfl (by kernel_rfl) (by kernel_rfl) (by kernel_rfl) (fun _ _ _ h => h) (Or.inl ⟨by rfl, fun w' hS' => ?_⟩) (by assumption) ?_
              rotate_left
              · (try dsimp only at hS'); go_simp; (try rw [if_pos (by omega)]); try with_reducible rfl
              try simp only [Act.put, List.getElem_toArray, List.getElem_cons_zero, List.getElem_cons_succ, List.setIfInBounds_toArray, List.set_cons_zero, List.set_cons_succ]
              refine wpAnyH_take (i := 1) (v := ?_) rfl (by kernel_rfl) (by kernel_rfl) (by kernel_rfl) (fun _ _ _ h => h) (Or.inl ⟨by rfl, fun w' hS' => ?_⟩) (by assumption) ?_
              rotate_left
              · (try dsimp only at hS'); go_simp; (try rw [if_pos (by omega)]); try with_reducible rfl
              try simp only [Act.put, List.getElem_toArray, List.getElem_cons_zero, List.getElem_cons_succ, List.setIfInBounds_toArray, List.set_cons_zero, List.set_cons_succ]
              refine wpAnyH_take (i := 2) (v := ?_) rfl (by kernel_rfl) (by kernel_rfl) (by kernel_rfl) (fun _ _ _ h => h) (Or.inl ⟨by rfl, fun w' hS' => ?_⟩) (by assumption) ?_
              rotate_left
              · (try dsimp only at hS'); go_simp; (try rw [if_pos (by omega)]); try with_reducible rfl
              try simp only [Act.put, List.getElem_toArray, List.getElem_cons_zero, List.getElem_cons_succ, List.setIfInBounds_toArray, List.set_cons_zero, List.set_cons_succ]
              refine wpAnyH_take (i := 3) (v := ?_) rfl (by kernel_rfl) (by kernel_rfl) (by kernel_rfl) (fun _ _ _ h => h) (Or.inl ⟨by rfl, fun w' hS' => ?_⟩) (by assumption) ?_
              rotate_left
              · (try dsimp only at hS'); go_simp; (try rw [if_pos (by omega)]); try with_reducible rfl
              try simp only [Act.put, List.getElem_toArray, List.getElem_cons_zero, List.getElem_cons_succ, List.setIfInBounds_toArray, List.set_cons_zero, List.set_cons_succ]
              refine wpAnyH_take (i := 4) (v := ?_) rfl (by kernel_rfl) (by kernel_rfl) (by kernel_rfl) (fun _ _ _ h => h) (Or.inl ⟨by rfl, fun w' hS' => ?_⟩) (by assumption) ?_
              rotate_left
              · (try dsimp only at hS'); go_simp; (try rw [if_pos (by omega)]); try with_reducible rfl
              try simp only [Act.put, List.getElem_toArray, List.getElem_cons_zero, List.getElem_cons_succ, List.setIfInBounds_toArray, List.set_cons_zero, List.set_cons_succ]
              refine wpAnyH_take (i := 5) (v := ?_) rfl (by kernel_rfl) (by kernel_rfl) (by kernel_rfl) (fun _ _ _ h => h) (Or.inl ⟨by rfl, fun w' hS' => ?_⟩) (by assumption) ?_
              rotate_left
              · (try dsimp only at hS'); go_simp; (try rw [if_pos (by omega)]); try with_reducible rfl
              try simp only [Act.put, List.getElem_toArray, List.getElem_cons_zero, List.getElem_cons_succ, List.setIfInBounds_toArray, List.set_cons_zero, List.set_cons_succ]
              refine wpAnyH_take (i := 6) (v := ?_) rfl (by kernel_rfl) (by kernel_rfl) (by kernel_rfl) (fun _ _ _ h => h) (Or.inl ⟨by rfl, fun w' hS' => ?_⟩) (by assumption) ?_
              rotate_left
              · (try dsimp only at hS'); go_simp; (try rw [if_pos (by omega)]); try with_reducible rfl
              try simp only [Act.put, List.getElem_toArray, List.getElem_cons_zero, List.getElem_cons_succ, List.setIfInBounds_toArray, List.set_cons_zero, List.set_cons_succ]
              refine wpAnyH_take (i := 7) (v := ?_) rfl (by kernel_rfl) (by kernel_rfl) (by kernel_rfl) (fun _ _ _ h => h) (Or.inl ⟨by rfl, fun w' hS' => ?_⟩) (by assumption) ?_
              rotate_left
              · (try dsimp only at hS'); go_simp; (try rw [if_pos (by omega)]); try with_reducible rfl
              try simp only [Act.put, List.getElem_toArray, List.getElem_cons_zero, List.getElem_cons_succ, List.setIfInBounds_toArray, List.set_cons_zero, List.set_cons_succ]
              refine wpAnyH_take (i := 8) (v := ?_) rfl (by kernel_rfl) (by kernel_rfl) (by kernel_rfl) (fun _ _ _ h => h) (Or.inl ⟨by rfl, fun w' hS' => ?_⟩) (by assumption) ?_
              rotate_left
              · (try dsimp only at hS'); go_simp; (try rw [if_pos (by omega)]); try with_reducible rfl
              try simp only [Act.put, List.getElem_toArray, List.getElem_cons_zero, List.getElem_cons_succ, List.setIfInBounds_toArray, List.set_cons_zero, List.set_cons_succ]
              refine wpAnyH_take (i := 9) (v := ?_) rfl (by kernel_rfl) (by kernel_rfl) (by kernel_rfl) (fun _ _ _ h => h) (Or.inl ⟨by rfl, fun w' hS' => ?_⟩) (by assumption) ?_
              rotate_left
              · (try dsimp only at hS'); go_simp; (try rw [if_pos (by omega)]); try with_reducible rfl
              try simp only [Act.put, List.getElem_toArray, List.getElem_cons_zero, List.getElem_cons_succ, List.setIfInBounds_toArray, List.set_cons_zero, List.set_cons_succ]
              refine wpAnyH_take (i := 10) (v := ?_) rfl (by kernel_rfl) (by kernel_rfl) (by kernel_rfl) (fun _ _ _ h => h) (Or.inl ⟨by rfl, fun w' hS' => ?_⟩) (by assumption) ?_
              rotate_left
              · (try dsimp only at hS'); go_simp; (try rw [if_pos (by omega)]); try with_reducible rfl
              try simp only [Act.put, List.getElem_toArray, List.getElem_cons_zero, List.getElem_cons_succ, List.setIfInBounds_toArray, List.set_cons_zero, List.set_cons_succ]
              refine wpAnyH_take (i := 11) (v := ?_) rfl (by kernel_rfl) (by kernel_rfl) (by kernel_rfl) (fun _ _ _ h => h) (Or.inl ⟨by rfl, fun w' hS' => ?_⟩) (by assumption) ?_
              rotate_left
              · (try dsimp only at hS'); go_simp; (try rw [if_pos (by omega)]); try with_reducible rfl
              try simp only [Act.put, List.getElem_toArray, List.getElem_cons_zero, List.getElem_cons_succ, List.setIfInBounds_toArray, List.set_cons_zero, List.set_cons_succ]
              refine wpAnyH_take (i := 12) (v := ?_) rfl (by kernel_rfl) (by kernel_rfl) (by kernel_rfl) (fun _ _ _ h => h) (Or.inl ⟨by rfl, fun w' hS' => ?_⟩) (by assumption) ?_
              rotate_left
              · (try dsimp only at hS'); go_simp; (try rw [if_pos (by omega)]); try with_reducible rfl
              try simp only [Act.put, List.getElem_toArray, List.getElem_cons_zero, List.getElem_cons_succ, List.setIfInBounds_toArray, List.set_cons_zero, List.set_cons_succ]
              refine wpAnyH_take (i := 13) (v := ?_) rfl (by kernel_rfl) (by kernel_rfl) (by kernel_rfl) (fun _ _ _ h => h) (Or.inl ⟨by rfl, fun w' hS' => ?_⟩) (by assumption) ?_
              rotate_left
              · (try dsimp only at hS'); go_simp; (try rw [if_pos (by omega)]); try with_reducible rfl
              try simp only [Act.put, List.getElem_toArray, List.getElem_cons_zero, List.getElem_cons_succ, List.setIfInBounds_toArray, List.set_cons_zero, List.set_cons_succ]
              refine wpAnyH_take (i := 14) (v := ?_) rfl (by kernel_rfl) (by kernel_rfl) (by kernel_rfl) (fun _ _ _ h => h) (Or.inl ⟨by rfl, fun w' hS' => ?_⟩) (by assumption) ?_
              rotate_left
              · (try dsimp only at hS'); go_simp; (try rw [if_pos (by omega)]); try with_reducible rfl
              try simp only [Act.put, List.getElem_toArray, List.getElem_cons_zero, List.getElem_cons_succ, List.setIfInBounds_toArray, List.set_cons_zero, List.set_cons_succ]
              refine wpAnyH_take (i := 15) (v := ?_) rfl (by kernel_rfl) (by kernel_rfl) (by kernel_rfl) (fun _ _ _ h => h) (Or.inl ⟨by rfl, fun w' hS' => ?_⟩) (by assumption) ?_
              rotate_left
              · (try dsimp only at hS'); go_simp; (try rw [if_pos (by omega)]); try with_reducible rfl
              try simp only [Act.put, List.getElem_toArray, List.getElem_cons_zero, List.getElem_cons_succ, List.setIfInBounds_toArray, List.set_cons_zero, List.set_cons_succ]
              refine wpAnyH_take (i := 16) (v := ?_) rfl (by kernel_rfl) (by kernel_rfl) (by kernel_rfl) (fun _ _ _ h => h) (Or.inl ⟨by rfl, fun w' hS' => ?_⟩) (by assumption) ?_
              rotate_left
              · (try dsimp only at hS'); go_simp; (try rw [if_pos (by omega)]); try with_reducible rfl
              try simp only [Act.put, List.getElem_toArray, List.getElem_cons_zero, List.getElem_cons_succ, List.setIfInBounds_toArray, List.set_cons_zero, List.set_cons_succ]
              refine wpAnyH_take (i := 17) (v := ?_) rfl (by kernel_rfl) (by kernel_rfl) (by kernel_rfl) (fun _ _ _ h => h) (Or.inl ⟨by rfl, fun w' hS' => ?_⟩) (by assumption) ?_
              rotate_left
              · (try dsimp only at hS'); go_simp; (try rw [if_pos (by omega)]); try with_reducible rfl
              try simp only [Act.put, List.getElem_toArray, List.getElem_cons_zero, List.getElem_cons_succ, List.setIfInBounds_toArray, List.set_cons_zero, List.set_cons_succ]
              refine wpAnyH_done (by kernel_rfl) ?_ _
              refine tail_step rfl (fun K' hK => ?_)
              refine if_yes (by rfl) ?_
              try simp only [Act.put, List.getElem_toArray, List.getElem_cons_zero, List.getElem_cons_succ, List.setIfInBounds_toArray, List.set_cons_zero, List.set_cons_succ]
              go_simp
              refine hK _ _ ?_
              clear hK K'
              try simp only [Act.put, List.getElem_toArray, List.getElem_cons_zero, List.getElem_cons_succ, List.setIfInBounds_toArray, List.set_cons_zero, List.set_cons_succ]
              go_wp2_with fail
              go_roundg (i - (k+1))
              case rel =>
                refine ⟨k+1, by omega, rfl, by go_num, ?_, (A0.far (by simp) _).drew, ext_drew (ext_set E (by simp) _)⟩
                rw [← midRow_next p n i k x y Hb.out Hx.out Hy.out, ← Hs.out, Int.max_eq_right (by omega)]
                exact Lib.hid (R.out.set i (x + y)).drew
              case measure => have := Hkk.out; omega
        · have hki : k = i := by omega
          subst hki
          go_wp2_with fail
          go_roundg (n - (k+1))
          case rel => exact ⟨k+1, by omega, rfl, by go_num, by rw [← midRow_full p n k hlt]; exact R, A0, E⟩
          case measure => have := Hk.out; omega
    · have hin : i = n := by omega
      subst hin
      go_wp2_with fail
      go_ret
      refine ⟨_, rfl, ?_, E⟩
      have := R.out
      rw [Nat.sub_self, List.replicate_zero, List.append_nil] at this
      unfold Pj.early
      rw [← hn.out]
      exact this
end Go.Proofs.Ytdfcjhcnojgkiaa
