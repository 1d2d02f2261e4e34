/- The walk of impl.table.close: the table is closed in place, and it is told whether it fits. Conditions: at most 6 points, the numbers from -2000 to Far. -/
import Derived.Test.YtffcfambgcaikaaTabPlan
import Derived.Test.YtffcfambgcaikaaTail
import Derived.Deep.Cut
namespace Go.Proofs.Ytffcfambgcaikaa
open Go.RowKit
set_option linter.unusedVariables false
set_option linter.unusedSimpArgs false
theorem ip_yes {k i j : Nat} {S : Tbl} (h1 : S i k < 100000) (h2 : S k j < 100000) (a c : Nat) : (if a = i ∧ c = j then min (S i j) (S i k + S k j) else S a c) = ipStep k i j S a c := by
  unfold ipStep; rw [if_pos (c := S i k < 100000 ∧ S k j < 100000) ⟨h1, h2⟩]
theorem ip_no {k i j : Nat} {S : Tbl} (h : ¬ (S i k < 100000 ∧ S k j < 100000)) (a c : Nat) : S a c = ipStep k i j S a c := by
  unfold ipStep; rw [if_neg h]
  split
  · rename_i h; rw [h.1, h.2]
  · rfl
set_option maxRecDepth 100000 in
set_option maxHeartbeats 8000000 in
theorem impl_close (n O : Nat) (b : Nat → Nat) (T : Tbl) (w : World) (hP : TabP w O n n b T) (hn : n ≤ 6) (hT : ∀ a c, a < n → c < n → -2000 ≤ T a c ∧ T a c ≤ 100000) :
    Calls Try.prog 86 #[.slice (some ⟨O, 0, none⟩) n n] w fun e w' => e = .returned (.bool (fitB (ipAll n T n) n)) ∧ TabP w' O n n b (ipAll n T n) ∧ Below O w w' := by
  have P : Hid (TabP w O n n b (ipAll n T 0)) := Lib.hid hP
  have Hin : Hid (∀ k, k < n → ∀ i, i < n → ∀ j, j ≤ n → ∀ a c, a < n → c < n → -100000000 ≤ ipRow k i (ipRows k n (ipAll n T k) i) j a c ∧ ipRow k i (ipRows k n (ipAll n T k) i) j a c ≤ 100000) :=
    Lib.hid (ip_within hn (Int.le_refl _) (by decide) hT)
  have hO := hP.olt
  clear hP hT
  go_enter Try.func86, Try.ntmps86
  go_wp2_with fail
  go_loopg [9] n (fun m kk wr => ∃ k : Nat, k ≤ n ∧ m = n - k ∧ kk = .int .i64 k ∧ Hid (TabP wr O n n b (ipAll n T k)) ∧ Below O w wr)
  case atStart => exact ⟨0, by omega, by omega, rfl, P, Below.refl _ _⟩
  case round =>
    clear P
    obtain ⟨k, hk, hgk, rfl, P, E⟩ := hrel
    have Hk := Lib.hid hgk
    clear hgk
    by_cases hlk : k < n
    · have P : Hid (TabP wr O n n b (ipRows k n (ipAll n T k) 0)) := P
      go_wp2_with fail
      go_loopg [14] n (fun m ii wx => ∃ i : Nat, i ≤ n ∧ m = n - i ∧ ii = .int .i64 i ∧ Hid (TabP wx O n n b (ipRows k n (ipAll n T k) i)) ∧ Below O w wx)
      case atStart => exact ⟨0, by omega, by omega, rfl, P, E⟩
      case round =>
        clear P E
        rename World => wx
        obtain ⟨i, hi, hgk, rfl, P, E⟩ := hrel
        have Hi := Lib.hid hgk
        clear hgk
        by_cases hli : i < n
        · have P : Hid (TabP wx O n n b (ipRow k i (ipRows k n (ipAll n T k) i) 0)) := P
          go_wp2_with fail
          go_loopg [19] n (fun m jj wy => ∃ j : Nat, j ≤ n ∧ m = n - j ∧ jj = .int .i64 j ∧ Hid (TabP wy O n n b (ipRow k i (ipRows k n (ipAll n T k) i) j)) ∧ Below O w wy)
          case atStart => exact ⟨0, by omega, by omega, rfl, P, E⟩
          case round =>
            clear P E
            rename World => wy
            obtain ⟨j, hj, hgk, rfl, P, E⟩ := hrel
            have Hj := Lib.hid hgk
            clear hgk
            by_cases hlj : j < n
            · have hin := Hin.out k hlk i hli j hj
              obtain ⟨S, hS⟩ : ∃ S, Hid (S = ipRow k i (ipRows k n (ipAll n T k) i) j) := ⟨_, rfl⟩
              have hnx : Hid (ipRow k i (ipRows k n (ipAll n T k) i) (j+1) = ipStep k i j S) := by rw [hS.out]; exact Lib.hid rfl
              rw [← hS.out] at P hin
              have hx := hin i k hli hlk
              have hy := hin k j hlk hlj
              have hz := hin i j hli hlj
              have hOi := P.out.head hli
              have hOk := P.out.head hlk
              have cx := P.out.cell hli hlk
              have cy := P.out.cell hlk hlj
              have cz := P.out.cell hli hlj
              have hol := P.out.olt
              have hbi := P.out.blt hli
              have hbk := P.out.blt hlk
              have hlow := P.out.lt i hli
              have hfr := P.out.frozen hli
              obtain ⟨Bi, HBi⟩ : ∃ q, Hid (q = b i) := ⟨_, rfl⟩
              obtain ⟨Bk, HBk⟩ : ∃ q, Hid (q = b k) := ⟨_, rfl⟩
              obtain ⟨x, Hx⟩ : ∃ q, Hid (q = S i k) := ⟨_, rfl⟩
              obtain ⟨y, Hy⟩ : ∃ q, Hid (q = S k j) := ⟨_, rfl⟩
              obtain ⟨z, Hz⟩ : ∃ q, Hid (q = S i j) := ⟨_, rfl⟩
              rw [← HBi.out] at hOi cx cz hbi hlow hfr
              rw [← HBk.out] at hOk cy hbk
              rw [← Hx.out] at cx hx
              rw [← Hy.out] at cy hy
              rw [← Hz.out] at cz hz
              clear hin
              have hstay : ¬ (x < 100000 ∧ y < 100000) → Hid (TabP wy O n n b (ipStep k i j S)) := fun h => Lib.hid (P.out.congr fun a c _ _ => ip_no (by rw [← Hx.out, ← Hy.out]; exact h) a c)
              by_cases hxf : x < 100000
              · have hxb : (x != 100000) = true := by simp; omega
                by_cases hyf : y < 100000
                · have hyb : (y != 100000) = true := by simp; omega
                  have hnext : Hid (TabP (wy.setCell ⟨Bi, j, none⟩ (.int .i64 (min z (x + y)))) O n n b (ipStep k i j S)) := by
                    have h := P.out.set hli hlj (min (S i j) (S i k + S k j))
                    rw [← HBi.out] at h
                    have h2 := h.congr fun a c _ _ => ip_yes (k := k) (i := i) (j := j) (by rw [← Hx.out]; exact hxf) (by rw [← Hy.out]; exact hyf) a c
                    rw [← Hx.out, ← Hy.out, ← Hz.out] at h2
                    exact Lib.hid h2
                  have hw : IntKind.i64.wrap (x + y) = x + y := IntWalk.i64_in _ (by omega)
                  clear hstay
                  go_wp2_with fail
                  by_cases hxm : z ≤ x + y
                  · rw [Int.min_eq_left hxm] at hnext
                    refine wp_region_tail 29 (by kernel_rfl) (by kernel_rfl) (fun w' => w'.cell? ⟨O, i, none⟩ = some (.slice (some ⟨Bi, 0, none⟩) n n) ∧ w'.cell? ⟨O, k, none⟩ = some (.slice (some ⟨Bk, 0, none⟩) n n) ∧ w'.cell? ⟨Bi, k, none⟩ = some (.int .i64 x) ∧ w'.cell? ⟨Bk, j, none⟩ = some (.int .i64 y) ∧ w'.cell? ⟨Bi, j, none⟩ = some (.int .i64 z)) ?_ ?_
                    · exact ⟨hOi, hOk, cx, cy, cz⟩
                    intro hHeld
                    simp only [List.pop_toArray, List.dropLast]
                    refine wpAnyH_take (i := 0) (v := ?_) rfl (by kernel_rfl) (by kernel_rfl) (by kernel_rfl) (fun _ _ _ h => h) (Or.inl ⟨by rfl, fun w' hS' => ?_⟩) (by assumption) ?_
                    rotate_left
                    · (try dsimp only at hS'); go_simp; (try rw [if_pos (by omega)]); try with_reducible rfl
                    try simp only [Act.put, List.getElem_toArray, List.getElem_cons_zero, List.getElem_cons_succ, List.setIfInBounds_toArray, List.set_cons_zero, List.set_cons_succ]
                    refine wpAnyH_take (i := 1) (v := ?_) rfl (by kernel_rfl) (by kernel_rfl) (by kernel_rfl) (fun _ _ _ h => h) (Or.inl ⟨by rfl, fun w' hS' => ?_⟩) (by assumption) ?_
                    rotate_left
                    · (try dsimp only at hS'); go_simp; (try rw [if_pos (by omega)]); try with_reducible rfl
                    try simp only [Act.put, List.getElem_toArray, List.getElem_cons_zero, List.getElem_cons_succ, List.setIfInBounds_toArray, List.set_cons_zero, List.set_cons_succ]
                    refine wpAnyH_take (i := 2) (v := ?_) rfl (by kernel_rfl) (by kernel_rfl) (by kernel_rfl) (fun _ _ _ h => h) (Or.inl ⟨by rfl, fun w' hS' => ?_⟩) (by assumption) ?_
                    rotate_left
                    · (try dsimp only at hS'); go_simp; (try rw [if_pos (by omega)]); try with_reducible rfl
                    try simp only [Act.put, List.getElem_toArray, List.getElem_cons_zero, List.getElem_cons_succ, List.setIfInBounds_toArray, List.set_cons_zero, List.set_cons_succ]
                    refine wpAnyH_take (i := 3) (v := ?_) rfl (by kernel_rfl) (by kernel_rfl) (by kernel_rfl) (fun _ _ _ h => h) (Or.inl ⟨by rfl, fun w' hS' => ?_⟩) (by assumption) ?_
                    rotate_left
                    · (try dsimp only at hS'); go_simp; (try rw [if_pos (by omega)]); try with_reducible rfl
                    try simp only [Act.put, List.getElem_toArray, List.getElem_cons_zero, List.getElem_cons_succ, List.setIfInBounds_toArray, List.set_cons_zero, List.set_cons_succ]
                    refine wpAnyH_take (i := 4) (v := ?_) rfl (by kernel_rfl) (by kernel_rfl) (by kernel_rfl) (fun _ _ _ h => h) (Or.inl ⟨by rfl, fun w' hS' => ?_⟩) (by assumption) ?_
                    rotate_left
                    · (try dsimp only at hS'); go_simp; (try rw [if_pos (by omega)]); try with_reducible rfl
                    try simp only [Act.put, List.getElem_toArray, List.getElem_cons_zero, List.getElem_cons_succ, List.setIfInBounds_toArray, List.set_cons_zero, List.set_cons_succ]
                    refine wpAnyH_take (i := 5) (v := ?_) rfl (by kernel_rfl) (by kernel_rfl) (by kernel_rfl) (fun _ _ _ h => h) (Or.inl ⟨by rfl, fun w' hS' => ?_⟩) (by assumption) ?_
                    rotate_left
                    · (try dsimp only at hS'); go_simp; (try rw [if_pos (by omega)]); try with_reducible rfl
                    try simp only [Act.put, List.getElem_toArray, List.getElem_cons_zero, List.getElem_cons_succ, List.setIfInBounds_toArray, List.set_cons_zero, List.set_cons_succ]
                    refine wpAnyH_take (i := 6) (v := ?_) rfl (by kernel_rfl) (by kernel_rfl) (by kernel_rfl) (fun _ _ _ h => h) (Or.inl ⟨by rfl, fun w' hS' => ?_⟩) (by assumption) ?_
                    rotate_left
                    · (try dsimp only at hS'); go_simp; (try rw [if_pos (by omega)]); try with_reducible rfl
                    try simp only [Act.put, List.getElem_toArray, List.getElem_cons_zero, List.getElem_cons_succ, List.setIfInBounds_toArray, List.set_cons_zero, List.set_cons_succ]
                    refine wpAnyH_take (i := 7) (v := ?_) rfl (by kernel_rfl) (by kernel_rfl) (by kernel_rfl) (fun _ _ _ h => h) (Or.inl ⟨by rfl, fun w' hS' => ?_⟩) (by assumption) ?_
                    rotate_left
                    · (try dsimp only at hS'); go_simp; (try rw [if_pos (by omega)]); try with_reducible rfl
                    try simp only [Act.put, List.getElem_toArray, List.getElem_cons_zero, List.getElem_cons_succ, List.setIfInBounds_toArray, List.set_cons_zero, List.set_cons_succ]
                    refine wpAnyH_take (i := 8) (v := ?_) rfl (by kernel_rfl) (by kernel_rfl) (by kernel_rfl) (fun _ _ _ h => h) (Or.inl ⟨by rfl, fun w' hS' => ?_⟩) (by assumption) ?_
                    rotate_left
                    · (try dsimp only at hS'); go_simp; (try rw [if_pos (by omega)]); try with_reducible rfl
                    try simp only [Act.put, List.getElem_toArray, List.getElem_cons_zero, List.getElem_cons_succ, List.setIfInBounds_toArray, List.set_cons_zero, List.set_cons_succ]
                    refine wpAnyH_take (i := 9) (v := ?_) rfl (by kernel_rfl) (by kernel_rfl) (by kernel_rfl) (fun _ _ _ h => h) (Or.inl ⟨by rfl, fun w' hS' => ?_⟩) (by assumption) ?_
                    rotate_left
                    · (try dsimp only at hS'); go_simp; (try rw [if_pos (by omega)]); try with_reducible rfl
                    try simp only [Act.put, List.getElem_toArray, List.getElem_cons_zero, List.getElem_cons_succ, List.setIfInBounds_toArray, List.set_cons_zero, List.set_cons_succ]
                    refine wpAnyH_take (i := 10) (v := ?_) rfl (by kernel_rfl) (by kernel_rfl) (by kernel_rfl) (fun _ _ _ h => h) (Or.inl ⟨by rfl, fun w' hS' => ?_⟩) (by assumption) ?_
                    rotate_left
                    · (try dsimp only at hS'); go_simp; (try rw [if_pos (by omega)]); try with_reducible rfl
                    try simp only [Act.put, List.getElem_toArray, List.getElem_cons_zero, List.getElem_cons_succ, List.setIfInBounds_toArray, List.set_cons_zero, List.set_cons_succ]
                    refine wpAnyH_take (i := 11) (v := ?_) rfl (by kernel_rfl) (by kernel_rfl) (by kernel_rfl) (fun _ _ _ h => h) (Or.inl ⟨by rfl, fun w' hS' => ?_⟩) (by assumption) ?_
                    rotate_left
                    · (try dsimp only at hS'); go_simp; (try rw [if_pos (by omega)]); try with_reducible rfl
                    try simp only [Act.put, List.getElem_toArray, List.getElem_cons_zero, List.getElem_cons_succ, List.setIfInBounds_toArray, List.set_cons_zero, List.set_cons_succ]
                    refine wpAnyH_take (i := 12) (v := ?_) rfl (by kernel_rfl) (by kernel_rfl) (by kernel_rfl) (fun _ _ _ h => h) (Or.inl ⟨by rfl, fun w' hS' => ?_⟩) (by assumption) ?_
                    rotate_left
                    · (try dsimp only at hS'); go_simp; (try rw [if_pos (by omega)]); try with_reducible rfl
                    try simp only [Act.put, List.getElem_toArray, List.getElem_cons_zero, List.getElem_cons_succ, List.setIfInBounds_toArray, List.set_cons_zero, List.set_cons_succ]
                    refine wpAnyH_take (i := 13) (v := ?_) rfl (by kernel_rfl) (by kernel_rfl) (by kernel_rfl) (fun _ _ _ h => h) (Or.inl ⟨by rfl, fun w' hS' => ?_⟩) (by assumption) ?_
                    rotate_left
                    · (try dsimp only at hS'); go_simp; (try rw [if_pos (by omega)]); try with_reducible rfl
                    try simp only [Act.put, List.getElem_toArray, List.getElem_cons_zero, List.getElem_cons_succ, List.setIfInBounds_toArray, List.set_cons_zero, List.set_cons_succ]
                    refine wpAnyH_take (i := 14) (v := ?_) rfl (by kernel_rfl) (by kernel_rfl) (by kernel_rfl) (fun _ _ _ h => h) (Or.inl ⟨by rfl, fun w' hS' => ?_⟩) (by assumption) ?_
                    rotate_left
                    · (try dsimp only at hS'); go_simp; (try rw [if_pos (by omega)]); try with_reducible rfl
                    try simp only [Act.put, List.getElem_toArray, List.getElem_cons_zero, List.getElem_cons_succ, List.setIfInBounds_toArray, List.set_cons_zero, List.set_cons_succ]
                    refine wpAnyH_take (i := 15) (v := ?_) rfl (by kernel_rfl) (by kernel_rfl) (by kernel_rfl) (fun _ _ _ h => h) (Or.inl ⟨by rfl, fun w' hS' => ?_⟩) (by assumption) ?_
                    rotate_left
                    · (try dsimp only at hS'); go_simp; (try rw [if_pos (by omega)]); try with_reducible rfl
                    try simp only [Act.put, List.getElem_toArray, List.getElem_cons_zero, List.getElem_cons_succ, List.setIfInBounds_toArray, List.set_cons_zero, List.set_cons_succ]
                    refine wpAnyH_take (i := 16) (v := ?_) rfl (by kernel_rfl) (by kernel_rfl) (by kernel_rfl) (fun _ _ _ h => h) (Or.inl ⟨by rfl, fun w' hS' => ?_⟩) (by assumption) ?_
                    rotate_left
                    · (try dsimp only at hS'); go_simp; (try rw [if_pos (by omega)]); try with_reducible rfl
                    try simp only [Act.put, List.getElem_toArray, List.getElem_cons_zero, List.getElem_cons_succ, List.setIfInBounds_toArray, List.set_cons_zero, List.set_cons_succ]
                    refine wpAnyH_take (i := 17) (v := ?_) rfl (by kernel_rfl) (by kernel_rfl) (by kernel_rfl) (fun _ _ _ h => h) (Or.inl ⟨by rfl, fun w' hS' => ?_⟩) (by assumption) ?_
                    rotate_left
                    · (try dsimp only at hS'); go_simp; (try rw [if_pos (by omega)]); try with_reducible rfl
                    try simp only [Act.put, List.getElem_toArray, List.getElem_cons_zero, List.getElem_cons_succ, List.setIfInBounds_toArray, List.set_cons_zero, List.set_cons_succ]
                    refine wpAnyH_take (i := 18) (v := ?_) rfl (by kernel_rfl) (by kernel_rfl) (by kernel_rfl) (fun _ _ _ h => h) (Or.inl ⟨by rfl, fun w' hS' => ?_⟩) (by assumption) ?_
                    rotate_left
                    · (try dsimp only at hS'); go_simp; (try rw [if_pos (by omega)]); try with_reducible rfl
                    try simp only [Act.put, List.getElem_toArray, List.getElem_cons_zero, List.getElem_cons_succ, List.setIfInBounds_toArray, List.set_cons_zero, List.set_cons_succ]
                    refine wpAnyH_take (i := 19) (v := ?_) rfl (by kernel_rfl) (by kernel_rfl) (by kernel_rfl) (fun _ _ _ h => h) (Or.inl ⟨by rfl, fun w' hS' => ?_⟩) (by assumption) ?_
                    rotate_left
                    · (try dsimp only at hS'); go_simp; (try rw [if_pos (by omega)]); try with_reducible rfl
                    try simp only [Act.put, List.getElem_toArray, List.getElem_cons_zero, List.getElem_cons_succ, List.setIfInBounds_toArray, List.set_cons_zero, List.set_cons_succ]
                    refine wpAnyH_take (i := 20) (v := ?_) rfl (by kernel_rfl) (by kernel_rfl) (by kernel_rfl) (fun _ _ _ h => h) (Or.inl ⟨by rfl, fun w' hS' => ?_⟩) (by assumption) ?_
                    rotate_left
                    · (try dsimp only at hS'); go_simp; (try rw [if_pos (by omega)]); try with_reducible rfl
                    try simp only [Act.put, List.getElem_toArray, List.getElem_cons_zero, List.getElem_cons_succ, List.setIfInBounds_toArray, List.set_cons_zero, List.set_cons_succ]
                    refine wpAnyH_take (i := 21) (v := ?_) rfl (by kernel_rfl) (by kernel_rfl) (by kernel_rfl) (fun _ _ _ h => h) (Or.inl ⟨by rfl, fun w' hS' => ?_⟩) (by assumption) ?_
                    rotate_left
                    · (try dsimp only at hS'); go_simp; (try rw [if_pos (by omega)]); try with_reducible rfl
                    try simp only [Act.put, List.getElem_toArray, List.getElem_cons_zero, List.getElem_cons_succ, List.setIfInBounds_toArray, List.set_cons_zero, List.set_cons_succ]
                    refine wpAnyH_take (i := 22) (v := ?_) rfl (by kernel_rfl) (by kernel_rfl) (by kernel_rfl) (fun _ _ _ h => h) (Or.inl ⟨by rfl, fun w' hS' => ?_⟩) (by assumption) ?_
                    rotate_left
                    · (try dsimp only at hS'); go_simp; (try rw [if_pos (by omega)]); try with_reducible rfl
                    try simp only [Act.put, List.getElem_toArray, List.getElem_cons_zero, List.getElem_cons_succ, List.setIfInBounds_toArray, List.set_cons_zero, List.set_cons_succ]
                    refine wpAnyH_take (i := 23) (v := ?_) rfl (by kernel_rfl) (by kernel_rfl) (by kernel_rfl) (fun _ _ _ h => h) (Or.inl ⟨by rfl, fun w' hS' => ?_⟩) (by assumption) ?_
                    rotate_left
                    · (try dsimp only at hS'); go_simp; (try rw [if_pos (by omega)]); try with_reducible rfl
                    try simp only [Act.put, List.getElem_toArray, List.getElem_cons_zero, List.getElem_cons_succ, List.setIfInBounds_toArray, List.set_cons_zero, List.set_cons_succ]
                    refine wpAnyH_take (i := 24) (v := ?_) rfl (by kernel_rfl) (by kernel_rfl) (by kernel_rfl) (fun _ _ _ h => h) (Or.inl ⟨by rfl, fun w' hS' => ?_⟩) (by assumption) ?_
                    rotate_left
                    · (try dsimp only at hS'); go_simp; (try rw [if_pos (by omega)]); try with_reducible rfl
                    try simp only [Act.put, List.getElem_toArray, List.getElem_cons_zero, List.getElem_cons_succ, List.setIfInBounds_toArray, List.set_cons_zero, List.set_cons_succ]
                    refine wpAnyH_take (i := 25) (v := ?_) rfl (by kernel_rfl) (by kernel_rfl) (by kernel_rfl) (fun _ _ _ h => h) (Or.inl ⟨by rfl, fun w' hS' => ?_⟩) (by assumption) ?_
                    rotate_left
                    · (try dsimp only at hS'); go_simp; (try rw [if_pos (by omega)]); try with_reducible rfl
                    try simp only [Act.put, List.getElem_toArray, List.getElem_cons_zero, List.getElem_cons_succ, List.setIfInBounds_toArray, List.set_cons_zero, List.set_cons_succ]
                    refine wpAnyH_take (i := 26) (v := ?_) rfl (by kernel_rfl) (by kernel_rfl) (by kernel_rfl) (fun _ _ _ h => h) (Or.inl ⟨by rfl, fun w' hS' => ?_⟩) (by assumption) ?_
                    rotate_left
                    · (try dsimp only at hS'); go_simp; (try rw [if_pos (by omega)]); try with_reducible rfl
                    try simp only [Act.put, List.getElem_toArray, List.getElem_cons_zero, List.getElem_cons_succ, List.setIfInBounds_toArray, List.set_cons_zero, List.set_cons_succ]
                    refine wpAnyH_take (i := 27) (v := ?_) rfl (by kernel_rfl) (by kernel_rfl) (by kernel_rfl) (fun _ _ _ h => h) (Or.inl ⟨by rfl, fun w' hS' => ?_⟩) (by assumption) ?_
                    rotate_left
                    · (try dsimp only at hS'); go_simp; (try rw [if_pos (by omega)]); try with_reducible rfl
                    try simp only [Act.put, List.getElem_toArray, List.getElem_cons_zero, List.getElem_cons_succ, List.setIfInBounds_toArray, List.set_cons_zero, List.set_cons_succ]
                    refine wpAnyH_take (i := 28) (v := ?_) rfl (by kernel_rfl) (by kernel_rfl) (by kernel_rfl) (fun _ _ _ h => h) (Or.inl ⟨by rfl, fun w' hS' => ?_⟩) (by assumption) ?_
                    rotate_left
                    · (try dsimp only at hS'); go_simp; (try rw [if_pos (by omega)]); try with_reducible rfl
                    try simp only [Act.put, List.getElem_toArray, List.getElem_cons_zero, List.getElem_cons_succ, List.setIfInBounds_toArray, List.set_cons_zero, List.set_cons_succ]
                    refine wpAnyH_done (by kernel_rfl) ?_ _
                    refine tail_step rfl (fun K' hK => ?_)
                    refine if_yes (by rfl) ?_
                    try simp only [Act.put, List.getElem_toArray, List.getElem_cons_zero, List.getElem_cons_succ, List.setIfInBounds_toArray, List.set_cons_zero, List.set_cons_succ]
                    go_simp
                    refine hK _ _ ?_
                    clear hK K'
                    try simp only [Act.put, List.getElem_toArray, List.getElem_cons_zero, List.getElem_cons_succ, List.setIfInBounds_toArray, List.set_cons_zero, List.set_cons_succ]
                    go_wp2_with fail
                    go_roundg (n - (j+1))
                    case rel => exact ⟨j+1, by omega, rfl, by go_num, by rw [hnx.out]; exact Lib.hid hnext.out.drew, (E.setCell (by dsimp only; omega) _).drew⟩
                    case measure => have := Hj.out; omega
                  · rw [Int.min_eq_right (by omega)] at hnext
                    refine wp_region_tail 29 (by kernel_rfl) (by kernel_rfl) (fun w' => w'.cell? ⟨O, i, none⟩ = some (.slice (some ⟨Bi, 0, none⟩) n n) ∧ w'.cell? ⟨O, k, none⟩ = some (.slice (some ⟨Bk, 0, none⟩) n n) ∧ w'.cell? ⟨Bi, k, none⟩ = some (.int .i64 x) ∧ w'.cell? ⟨Bk, j, none⟩ = some (.int .i64 y) ∧ w'.cell? ⟨Bi, j, none⟩ = some (.int .i64 z)) ?_ ?_
                    · exact ⟨hOi, hOk, cx, cy, cz⟩
                    intro hHeld
                    simp only [List.pop_toArray, List.dropLast]
                    refine wpAnyH_take (i := 0) (v := ?_) rfl (by kernel_rfl) (by kernel_rfl) (by kernel_rfl) (fun _ _ _ h => h) (Or.inl ⟨by rfl, fun w' hS' => ?_⟩) (by assumption) ?_
                    rotate_left
                    · (try dsimp only at hS'); go_simp; (try rw [if_pos (by omega)]); try with_reducible rfl
                    try simp only [Act.put, List.getElem_toArray, List.getElem_cons_zero, List.getElem_cons_succ, List.setIfInBounds_toArray, List.set_cons_zero, List.set_cons_succ]
                    refine wpAnyH_take (i := 1) (v := ?_) rfl (by kernel_rfl) (by kernel_rfl) (by kernel_rfl) (fun _ _ _ h => h) (Or.inl ⟨by rfl, fun w' hS' => ?_⟩) (by assumption) ?_
                    rotate_left
                    · (try dsimp only at hS'); go_simp; (try rw [if_pos (by omega)]); try with_reducible rfl
                    try simp only [Act.put, List.getElem_toArray, List.getElem_cons_zero, List.getElem_cons_succ, List.setIfInBounds_toArray, List.set_cons_zero, List.set_cons_succ]
                    refine wpAnyH_take (i := 2) (v := ?_) rfl (by kernel_rfl) (by kernel_rfl) (by kernel_rfl) (fun _ _ _ h => h) (Or.inl ⟨by rfl, fun w' hS' => ?_⟩) (by assumption) ?_
                    rotate_left
                    · (try dsimp only at hS'); go_simp; (try rw [if_pos (by omega)]); try with_reducible rfl
                    try simp only [Act.put, List.getElem_toArray, List.getElem_cons_zero, List.getElem_cons_succ, List.setIfInBounds_toArray, List.set_cons_zero, List.set_cons_succ]
                    refine wpAnyH_take (i := 3) (v := ?_) rfl (by kernel_rfl) (by kernel_rfl) (by kernel_rfl) (fun _ _ _ h => h) (Or.inl ⟨by rfl, fun w' hS' => ?_⟩) (by assumption) ?_
                    rotate_left
                    · (try dsimp only at hS'); go_simp; (try rw [if_pos (by omega)]); try with_reducible rfl
                    try simp only [Act.put, List.getElem_toArray, List.getElem_cons_zero, List.getElem_cons_succ, List.setIfInBounds_toArray, List.set_cons_zero, List.set_cons_succ]
                    refine wpAnyH_take (i := 4) (v := ?_) rfl (by kernel_rfl) (by kernel_rfl) (by kernel_rfl) (fun _ _ _ h => h) (Or.inl ⟨by rfl, fun w' hS' => ?_⟩) (by assumption) ?_
                    rotate_left
                    · (try dsimp only at hS'); go_simp; (try rw [if_pos (by omega)]); try with_reducible rfl
                    try simp only [Act.put, List.getElem_toArray, List.getElem_cons_zero, List.getElem_cons_succ, List.setIfInBounds_toArray, List.set_cons_zero, List.set_cons_succ]
                    refine wpAnyH_take (i := 5) (v := ?_) rfl (by kernel_rfl) (by kernel_rfl) (by kernel_rfl) (fun _ _ _ h => h) (Or.inl ⟨by rfl, fun w' hS' => ?_⟩) (by assumption) ?_
                    rotate_left
                    · (try dsimp only at hS'); go_simp; (try rw [if_pos (by omega)]); try with_reducible rfl
                    try simp only [Act.put, List.getElem_toArray, List.getElem_cons_zero, List.getElem_cons_succ, List.setIfInBounds_toArray, List.set_cons_zero, List.set_cons_succ]
                    refine wpAnyH_take (i := 6) (v := ?_) rfl (by kernel_rfl) (by kernel_rfl) (by kernel_rfl) (fun _ _ _ h => h) (Or.inl ⟨by rfl, fun w' hS' => ?_⟩) (by assumption) ?_
                    rotate_left
                    · (try dsimp only at hS'); go_simp; (try rw [if_pos (by omega)]); try with_reducible rfl
                    try simp only [Act.put, List.getElem_toArray, List.getElem_cons_zero, List.getElem_cons_succ, List.setIfInBounds_toArray, List.set_cons_zero, List.set_cons_succ]
                    refine wpAnyH_take (i := 7) (v := ?_) rfl (by kernel_rfl) (by kernel_rfl) (by kernel_rfl) (fun _ _ _ h => h) (Or.inl ⟨by rfl, fun w' hS' => ?_⟩) (by assumption) ?_
                    rotate_left
                    · (try dsimp only at hS'); go_simp; (try rw [if_pos (by omega)]); try with_reducible rfl
                    try simp only [Act.put, List.getElem_toArray, List.getElem_cons_zero, List.getElem_cons_succ, List.setIfInBounds_toArray, List.set_cons_zero, List.set_cons_succ]
                    refine wpAnyH_take (i := 8) (v := ?_) rfl (by kernel_rfl) (by kernel_rfl) (by kernel_rfl) (fun _ _ _ h => h) (Or.inl ⟨by rfl, fun w' hS' => ?_⟩) (by assumption) ?_
                    rotate_left
                    · (try dsimp only at hS'); go_simp; (try rw [if_pos (by omega)]); try with_reducible rfl
                    try simp only [Act.put, List.getElem_toArray, List.getElem_cons_zero, List.getElem_cons_succ, List.setIfInBounds_toArray, List.set_cons_zero, List.set_cons_succ]
                    refine wpAnyH_take (i := 9) (v := ?_) rfl (by kernel_rfl) (by kernel_rfl) (by kernel_rfl) (fun _ _ _ h => h) (Or.inl ⟨by rfl, fun w' hS' => ?_⟩) (by assumption) ?_
                    rotate_left
                    · (try dsimp only at hS'); go_simp; (try rw [if_pos (by omega)]); try with_reducible rfl
                    try simp only [Act.put, List.getElem_toArray, List.getElem_cons_zero, List.getElem_cons_succ, List.setIfInBounds_toArray, List.set_cons_zero, List.set_cons_succ]
                    refine wpAnyH_take (i := 10) (v := ?_) rfl (by kernel_rfl) (by kernel_rfl) (by kernel_rfl) (fun _ _ _ h => h) (Or.inl ⟨by rfl, fun w' hS' => ?_⟩) (by assumption) ?_
                    rotate_left
                    · (try dsimp only at hS'); go_simp; (try rw [if_pos (by omega)]); try with_reducible rfl
                    try simp only [Act.put, List.getElem_toArray, List.getElem_cons_zero, List.getElem_cons_succ, List.setIfInBounds_toArray, List.set_cons_zero, List.set_cons_succ]
                    refine wpAnyH_take (i := 11) (v := ?_) rfl (by kernel_rfl) (by kernel_rfl) (by kernel_rfl) (fun _ _ _ h => h) (Or.inl ⟨by rfl, fun w' hS' => ?_⟩) (by assumption) ?_
                    rotate_left
                    · (try dsimp only at hS'); go_simp; (try rw [if_pos (by omega)]); try with_reducible rfl
                    try simp only [Act.put, List.getElem_toArray, List.getElem_cons_zero, List.getElem_cons_succ, List.setIfInBounds_toArray, List.set_cons_zero, List.set_cons_succ]
                    refine wpAnyH_take (i := 12) (v := ?_) rfl (by kernel_rfl) (by kernel_rfl) (by kernel_rfl) (fun _ _ _ h => h) (Or.inl ⟨by rfl, fun w' hS' => ?_⟩) (by assumption) ?_
                    rotate_left
                    · (try dsimp only at hS'); go_simp; (try rw [if_pos (by omega)]); try with_reducible rfl
                    try simp only [Act.put, List.getElem_toArray, List.getElem_cons_zero, List.getElem_cons_succ, List.setIfInBounds_toArray, List.set_cons_zero, List.set_cons_succ]
                    refine wpAnyH_take (i := 13) (v := ?_) rfl (by kernel_rfl) (by kernel_rfl) (by kernel_rfl) (fun _ _ _ h => h) (Or.inl ⟨by rfl, fun w' hS' => ?_⟩) (by assumption) ?_
                    rotate_left
                    · (try dsimp only at hS'); go_simp; (try rw [if_pos (by omega)]); try with_reducible rfl
                    try simp only [Act.put, List.getElem_toArray, List.getElem_cons_zero, List.getElem_cons_succ, List.setIfInBounds_toArray, List.set_cons_zero, List.set_cons_succ]
                    refine wpAnyH_take (i := 14) (v := ?_) rfl (by kernel_rfl) (by kernel_rfl) (by kernel_rfl) (fun _ _ _ h => h) (Or.inl ⟨by rfl, fun w' hS' => ?_⟩) (by assumption) ?_
                    rotate_left
                    · (try dsimp only at hS'); go_simp; (try rw [if_pos (by omega)]); try with_reducible rfl
                    try simp only [Act.put, List.getElem_toArray, List.getElem_cons_zero, List.getElem_cons_succ, List.setIfInBounds_toArray, List.set_cons_zero, List.set_cons_succ]
                    refine wpAnyH_take (i := 15) (v := ?_) rfl (by kernel_rfl) (by kernel_rfl) (by kernel_rfl) (fun _ _ _ h => h) (Or.inl ⟨by rfl, fun w' hS' => ?_⟩) (by assumption) ?_
                    rotate_left
                    · (try dsimp only at hS'); go_simp; (try rw [if_pos (by omega)]); try with_reducible rfl
                    try simp only [Act.put, List.getElem_toArray, List.getElem_cons_zero, List.getElem_cons_succ, List.setIfInBounds_toArray, List.set_cons_zero, List.set_cons_succ]
                    refine wpAnyH_take (i := 16) (v := ?_) rfl (by kernel_rfl) (by kernel_rfl) (by kernel_rfl) (fun _ _ _ h => h) (Or.inl ⟨by rfl, fun w' hS' => ?_⟩) (by assumption) ?_
                    rotate_left
                    · (try dsimp only at hS'); go_simp; (try rw [if_pos (by omega)]); try with_reducible rfl
                    try simp only [Act.put, List.getElem_toArray, List.getElem_cons_zero, List.getElem_cons_succ, List.setIfInBounds_toArray, List.set_cons_zero, List.set_cons_succ]
                    refine wpAnyH_take (i := 17) (v := ?_) rfl (by kernel_rfl) (by kernel_rfl) (by kernel_rfl) (fun _ _ _ h => h) (Or.inl ⟨by rfl, fun w' hS' => ?_⟩) (by assumption) ?_
                    rotate_left
                    · (try dsimp only at hS'); go_simp; (try rw [if_pos (by omega)]); try with_reducible rfl
                    try simp only [Act.put, List.getElem_toArray, List.getElem_cons_zero, List.getElem_cons_succ, List.setIfInBounds_toArray, List.set_cons_zero, List.set_cons_succ]
                    refine wpAnyH_take (i := 18) (v := ?_) rfl (by kernel_rfl) (by kernel_rfl) (by kernel_rfl) (fun _ _ _ h => h) (Or.inl ⟨by rfl, fun w' hS' => ?_⟩) (by assumption) ?_
                    rotate_left
                    · (try dsimp only at hS'); go_simp; (try rw [if_pos (by omega)]); try with_reducible rfl
                    try simp only [Act.put, List.getElem_toArray, List.getElem_cons_zero, List.getElem_cons_succ, List.setIfInBounds_toArray, List.set_cons_zero, List.set_cons_succ]
                    refine wpAnyH_take (i := 19) (v := ?_) rfl (by kernel_rfl) (by kernel_rfl) (by kernel_rfl) (fun _ _ _ h => h) (Or.inl ⟨by rfl, fun w' hS' => ?_⟩) (by assumption) ?_
                    rotate_left
                    · (try dsimp only at hS'); go_simp; (try rw [if_pos (by omega)]); try with_reducible rfl
                    try simp only [Act.put, List.getElem_toArray, List.getElem_cons_zero, List.getElem_cons_succ, List.setIfInBounds_toArray, List.set_cons_zero, List.set_cons_succ]
                    refine wpAnyH_take (i := 20) (v := ?_) rfl (by kernel_rfl) (by kernel_rfl) (by kernel_rfl) (fun _ _ _ h => h) (Or.inl ⟨by rfl, fun w' hS' => ?_⟩) (by assumption) ?_
                    rotate_left
                    · (try dsimp only at hS'); go_simp; (try rw [if_pos (by omega)]); try with_reducible rfl
                    try simp only [Act.put, List.getElem_toArray, List.getElem_cons_zero, List.getElem_cons_succ, List.setIfInBounds_toArray, List.set_cons_zero, List.set_cons_succ]
                    refine wpAnyH_take (i := 21) (v := ?_) rfl (by kernel_rfl) (by kernel_rfl) (by kernel_rfl) (fun _ _ _ h => h) (Or.inl ⟨by rfl, fun w' hS' => ?_⟩) (by assumption) ?_
                    rotate_left
                    · (try dsimp only at hS'); go_simp; (try rw [if_pos (by omega)]); try with_reducible rfl
                    try simp only [Act.put, List.getElem_toArray, List.getElem_cons_zero, List.getElem_cons_succ, List.setIfInBounds_toArray, List.set_cons_zero, List.set_cons_succ]
                    refine wpAnyH_take (i := 22) (v := ?_) rfl (by kernel_rfl) (by kernel_rfl) (by kernel_rfl) (fun _ _ _ h => h) (Or.inl ⟨by rfl, fun w' hS' => ?_⟩) (by assumption) ?_
                    rotate_left
                    · (try dsimp only at hS'); go_simp; (try rw [if_pos (by omega)]); try with_reducible rfl
                    try simp only [Act.put, List.getElem_toArray, List.getElem_cons_zero, List.getElem_cons_succ, List.setIfInBounds_toArray, List.set_cons_zero, List.set_cons_succ]
                    refine wpAnyH_take (i := 23) (v := ?_) rfl (by kernel_rfl) (by kernel_rfl) (by kernel_rfl) (fun _ _ _ h => h) (Or.inl ⟨by rfl, fun w' hS' => ?_⟩) (by assumption) ?_
                    rotate_left
                    · (try dsimp only at hS'); go_simp; (try rw [if_pos (by omega)]); try with_reducible rfl
                    try simp only [Act.put, List.getElem_toArray, List.getElem_cons_zero, List.getElem_cons_succ, List.setIfInBounds_toArray, List.set_cons_zero, List.set_cons_succ]
                    refine wpAnyH_take (i := 24) (v := ?_) rfl (by kernel_rfl) (by kernel_rfl) (by kernel_rfl) (fun _ _ _ h => h) (Or.inl ⟨by rfl, fun w' hS' => ?_⟩) (by assumption) ?_
                    rotate_left
                    · (try dsimp only at hS'); go_simp; (try rw [if_pos (by omega)]); try with_reducible rfl
                    try simp only [Act.put, List.getElem_toArray, List.getElem_cons_zero, List.getElem_cons_succ, List.setIfInBounds_toArray, List.set_cons_zero, List.set_cons_succ]
                    refine wpAnyH_take (i := 25) (v := ?_) rfl (by kernel_rfl) (by kernel_rfl) (by kernel_rfl) (fun _ _ _ h => h) (Or.inl ⟨by rfl, fun w' hS' => ?_⟩) (by assumption) ?_
                    rotate_left
                    · (try dsimp only at hS'); go_simp; (try rw [if_pos (by omega)]); try with_reducible rfl
                    try simp only [Act.put, List.getElem_toArray, List.getElem_cons_zero, List.getElem_cons_succ, List.setIfInBounds_toArray, List.set_cons_zero, List.set_cons_succ]
                    refine wpAnyH_take (i := 26) (v := ?_) rfl (by kernel_rfl) (by kernel_rfl) (by kernel_rfl) (fun _ _ _ h => h) (Or.inl ⟨by rfl, fun w' hS' => ?_⟩) (by assumption) ?_
                    rotate_left
                    · (try dsimp only at hS'); go_simp; (try rw [if_pos (by omega)]); try with_reducible rfl
                    try simp only [Act.put, List.getElem_toArray, List.getElem_cons_zero, List.getElem_cons_succ, List.setIfInBounds_toArray, List.set_cons_zero, List.set_cons_succ]
                    refine wpAnyH_take (i := 27) (v := ?_) rfl (by kernel_rfl) (by kernel_rfl) (by kernel_rfl) (fun _ _ _ h => h) (Or.inl ⟨by rfl, fun w' hS' => ?_⟩) (by assumption) ?_
                    rotate_left
                    · (try dsimp only at hS'); go_simp; (try rw [if_pos (by omega)]); try with_reducible rfl
                    try simp only [Act.put, List.getElem_toArray, List.getElem_cons_zero, List.getElem_cons_succ, List.setIfInBounds_toArray, List.set_cons_zero, List.set_cons_succ]
                    refine wpAnyH_take (i := 28) (v := ?_) rfl (by kernel_rfl) (by kernel_rfl) (by kernel_rfl) (fun _ _ _ h => h) (Or.inl ⟨by rfl, fun w' hS' => ?_⟩) (by assumption) ?_
                    rotate_left
                    · (try dsimp only at hS'); go_simp; (try rw [if_pos (by omega)]); try with_reducible rfl
                    try simp only [Act.put, List.getElem_toArray, List.getElem_cons_zero, List.getElem_cons_succ, List.setIfInBounds_toArray, List.set_cons_zero, List.set_cons_succ]
                    refine wpAnyH_done (by kernel_rfl) ?_ _
                    refine tail_step rfl (fun K' hK => ?_)
                    refine if_yes (by rfl) ?_
                    try simp only [Act.put, List.getElem_toArray, List.getElem_cons_zero, List.getElem_cons_succ, List.setIfInBounds_toArray, List.set_cons_zero, List.set_cons_succ]
                    go_simp
                    refine hK _ _ ?_
                    clear hK K'
                    try simp only [Act.put, List.getElem_toArray, List.getElem_cons_zero, List.getElem_cons_succ, List.setIfInBounds_toArray, List.set_cons_zero, List.set_cons_succ]
                    go_wp2_with fail
                    go_roundg (n - (j+1))
                    case rel => exact ⟨j+1, by omega, rfl, by go_num, by rw [hnx.out]; exact Lib.hid hnext.out.drew, (E.setCell (by dsimp only; omega) _).drew⟩
                    case measure => have := Hj.out; omega
                · have hyb : (y != 100000) = false := by simp; omega
                  have P2 := hstay (by omega)
                  clear hstay
                  go_wp2_with fail
                  go_roundg (n - (j+1))
                  case rel => exact ⟨j+1, by omega, rfl, by go_num, by rw [hnx.out]; exact P2, E⟩
                  case measure => have := Hj.out; omega
              · have hxb : (x != 100000) = false := by simp; omega
                have P2 := hstay (by omega)
                clear hstay
                go_wp2_with fail
                go_roundg (n - (j+1))
                case rel => exact ⟨j+1, by omega, rfl, by go_num, by rw [hnx.out]; exact P2, E⟩
                case measure => have := Hj.out; omega
            · have hjn : n = j := by omega
              subst hjn
              go_wp2_with fail
              go_roundg (n - (i+1))
              case rel => exact ⟨i+1, by omega, rfl, by go_num, P, E⟩
              case measure => have := Hi.out; omega
        · have hin : n = i := by omega
          subst hin
          go_wp2_with fail
          go_roundg (n - (k+1))
          case rel => exact ⟨k+1, by omega, rfl, by go_num, P, E⟩
          case measure => have := Hk.out; omega
    · have hkn : n = k := by omega
      subst hkn
      obtain ⟨D, hD⟩ : ∃ D, Hid (D = ipAll n T n) := ⟨_, rfl⟩
      rw [← hD.out] at P
      go_wp2_with fail
      go_loopg [74] n (fun m ii wx => ∃ i : Nat, i ≤ n ∧ m = n - i ∧ ii = .int .i64 i ∧ wx = wr ∧ Hid (∀ c, c < i → 0 ≤ D c c))
      case atStart => exact ⟨0, by omega, by omega, rfl, rfl, fun c hc => by omega⟩
      case round =>
        rename_i wr0 _ _ _ _ _ _ _ _ _ _
        obtain ⟨i, hi, hgk, rfl, hwe, Hall⟩ := hrel
        subst hwe
        have Hi := Lib.hid hgk
        clear hgk
        by_cases hli : i < n
        · have hOi := P.out.head hli
          have cx := P.out.cell hli hli
          have hol := P.out.olt
          have hbi := P.out.blt hli
          obtain ⟨Bi, HBi⟩ : ∃ q, Hid (q = b i) := ⟨_, rfl⟩
          obtain ⟨x, Hx⟩ : ∃ q, Hid (q = D i i) := ⟨_, rfl⟩
          rw [← HBi.out] at hOi cx hbi
          rw [← Hx.out] at cx
          by_cases hx0 : x < 0
          · go_wp2_with fail
            go_ret
            rw [← hD.out]
            exact ⟨by rw [fitB_not hli (by rw [← Hx.out]; exact hx0)]; rfl, P.out, E⟩
          · go_wp2_with fail
            go_roundg (n - (i+1))
            case rel =>
              refine ⟨i+1, by omega, rfl, by go_num, rfl, fun c hc => ?_⟩
              by_cases hci : c = i
              · subst hci; rw [← Hx.out]; omega
              · exact Hall.out c (by omega)
            case measure => have := Hi.out; omega
        · have hin : n = i := by omega
          subst hin
          go_wp2_with fail
          go_ret
          rw [← hD.out]
          exact ⟨by rw [fitB_iff.2 Hall.out]; rfl, P.out, E⟩
end Go.Proofs.Ytffcfambgcaikaa
