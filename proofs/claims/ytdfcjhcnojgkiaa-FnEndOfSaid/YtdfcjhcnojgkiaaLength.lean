/- The walks of lengths: impl.end, spec.l9Length, EarlyOf and LengthOf of both. Conditions: the numbers can be read; of end and l9Length: the project is one. -/
import Derived.Test.YtdfcjhcnojgkiaaEarly
namespace Go.Proofs.Ytdfcjhcnojgkiaa
open Go.RowKit
set_option linter.unusedVariables false
set_option linter.unusedSimpArgs false
theorem endUp_in {L e : Nat → Int} : ∀ n, (∀ j, j < n → e j + L j ≤ 1000000) → 0 ≤ endUp L e n ∧ endUp L e n ≤ 1000000
  | 0, _ => ⟨Int.le_refl _, by show (0 : Int) ≤ _; decide⟩
  | n+1, h => by have := endUp_in n fun j hj => h j (by omega); have := h n (by omega); unfold endUp; omega
set_option maxRecDepth 100000 in
set_option maxHeartbeats 4000000 in
theorem impl_end (p : Pj) (v1 v2 v3 : Value) (l : List Int) (w : World) (h1 : Ints w 0 v1 p.lo) (h2 : Ints w 0 v2 p.af) (h3 : Ints w 0 v3 l) (hok : p.ok = true) (hl : l.length = p.lo.length)
    (hr : ∀ j, j < l.length → 0 ≤ l.getD j 0 ∧ l.getD j 0 ≤ 900000) :
    Calls Try.prog 39 #[.agg #[v1, v2], v3] w fun e w' => e = .returned (.int .i64 (endUp p.L (fun j => l.getD j 0) p.lo.length)) ∧ Below w.heap.size w w' := by
  have H1 := Lib.hid h1; have H3 := Lib.hid h3
  obtain ⟨a1, c1, rfl, hn1, hc1, -⟩ := h1.open
  obtain ⟨a2, c2, rfl, hn2, hc2, -⟩ := h2.open
  obtain ⟨a3, c3, rfl, hn3, hc3, -⟩ := h3.open
  obtain ⟨hl6, haf, hLs, hAs⟩ := ok_upto hok
  have HLs := Lib.hid hLs; have Hl := Lib.hid hl; have Hr := Lib.hid hr
  obtain ⟨n, hn⟩ : ∃ n, Hid (n = p.lo.length) := ⟨_, rfl⟩
  have hn3' : Hid (l.length = n) := by rw [hn.out]; exact hl
  have hup : Hid (∀ i, i ≤ n → 0 ≤ endUp p.L (fun j => l.getD j 0) i ∧ endUp p.L (fun j => l.getD j 0) i ≤ 1000000) := fun i hi => endUp_in i fun j hj => by
    have := hr j (by have := hn3'.out; omega); have := hLs j (by rw [← hn.out]; omega); omega
  rw [← hn.out] at hl6 hn1 ⊢
  rw [hn3'.out] at hn3 ⊢
  clear h1 h2 h3 hok haf hLs hAs hl hr
  go_enter Try.func39, Try.ntmps39
  go_wp2_with fail
  obtain ⟨W, hW, A0, hs, E⟩ := one_box w #[.slice a1 n c1, .slice a2 p.af.length c2] 27
  rw [← hW.out]
  obtain ⟨rc0, rz0⟩ := (A0).rules; have rl0 := (A0).lt
  go_loopg [5, 10] n (fun m s kk wr => ∃ k : Nat, k ≤ n ∧ m = n - k ∧ kk = .int .i64 k ∧ s = .int .i64 (endUp p.L (fun j => l.getD j 0) k) ∧ wr = W)
  case atStart => exact ⟨0, by omega, by omega, rfl, rfl, rfl⟩
  case round =>
    obtain ⟨k, hk, hgk, rfl, rfl, rfl⟩ := hrel
    have Hk := Lib.hid hgk
    clear hgk
    have hs := hup.out k hk
    obtain ⟨s, Hs⟩ : ∃ s, Hid (s = endUp p.L (fun j => l.getD j 0) k) := ⟨_, rfl⟩
    rw [← Hs.out] at hs ⊢
    by_cases hlt : k < n
    · have hkn : k < p.lo.length := by rw [← hn.out]; exact hlt
      have hkl : k < l.length := by rw [hn3'.out]; exact hlt
      obtain ⟨g1, ha1, _, hg1, _, cy⟩ := (H1.out.ext E).at_ hkn
      subst ha1
      obtain ⟨g3, ha3, _, hg3, _, cx⟩ := (H3.out.ext E).at_ hkl
      subst ha3
      have hy := HLs.out k hkn
      have hx := Hr.out k hkl
      obtain ⟨x, Hx⟩ : ∃ x, Hid (x = l.getD k 0) := ⟨_, rfl⟩
      obtain ⟨y, Hy⟩ : ∃ y, Hid (y = p.L k) := ⟨_, rfl⟩
      rw [← Hx.out] at cx hx
      rw [show p.lo.getD k 0 = y from Hy.out.symm] at cy
      rw [← Hy.out] at hy
      clear hkn hkl
      have hw : IntKind.i64.wrap (x + y) = x + y := IntWalk.i64_in _ (by omega)
      by_cases hmx : x + y ≤ s
      · go_wp2_with fail
        go_roundg (n - (k+1))
        case rel =>
          refine ⟨k+1, by omega, rfl, by go_num, ?_, rfl⟩
          rw [show endUp p.L (fun j => l.getD j 0) (k+1) = max (endUp p.L (fun j => l.getD j 0) k) (l.getD k 0 + p.L k) from rfl, ← Hs.out, ← Hx.out, ← Hy.out, Int.max_eq_left hmx]
        case measure => have := Hk.out; omega
      · go_wp2_with fail
        go_roundg (n - (k+1))
        case rel =>
          refine ⟨k+1, by omega, rfl, by go_num, ?_, rfl⟩
          rw [show endUp p.L (fun j => l.getD j 0) (k+1) = max (endUp p.L (fun j => l.getD j 0) k) (l.getD k 0 + p.L k) from rfl, ← Hs.out, ← Hx.out, ← Hy.out, Int.max_eq_right (by omega)]
        case measure => have := Hk.out; omega
    · have hkn : k = n := by omega
      subst hkn
      go_wp2_with fail
      go_ret
      exact ⟨by rw [← Hs.out]; rfl, E⟩
def Pj.len (p : Pj) : Int := endUp p.L (fun j => p.early.getD j 0) p.lo.length
theorem early_len (p : Pj) : p.early.length = p.lo.length := earlyL_length _ _ _
theorem early_in {p : Pj} (h : p.ok = true) : ∀ j, j < p.early.length → 0 ≤ p.early.getD j 0 ∧ p.early.getD j 0 ≤ 120 := fun j hj => e_in h (Nat.le_refl _) j (by rw [early_len] at hj; exact hj)
end Go.Proofs.Ytdfcjhcnojgkiaa
