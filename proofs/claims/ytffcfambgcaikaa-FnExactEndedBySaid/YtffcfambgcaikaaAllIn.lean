/- The walks of slices.IndexFunc and ContainsFunc over numbers, and of impl.allIn: whether all numbers lie in a range. No condition but that the numbers can be read. -/
import Derived.Test.YtffcfambgcaikaaPlanOk
namespace Go.Proofs.Ytffcfambgcaikaa
open Go.RowKit
set_option linter.unusedVariables false
set_option linter.unusedSimpArgs false
set_option maxHeartbeats 400000 in
theorem indexFuncI (fv : FuncId) (cp : Array Value) (p : Int → Bool) (S : World → Prop) (hS : ∀ w w', S w → Below w.heap.size w w' → S w')
   (hf : ∀ b w, S w → Calls Try.prog fv (#[.int .i64 b] ++ cp) w (fun e w' => e = .returned (.bool (p b)) ∧ Below w.heap.size w w'))
   (hcf : ∀ args w, (callFunc fv args).run Try.prog w = .ok (.enter fv args) w)
   (v : Value) (l : List Int) (w : World) (hw : S w) (hv : Ints w 0 v l) :
    Calls Try.prog 99 #[v, .func (.func fv) #[] cp] w fun e w' => e = .returned (.int .i64 (fidx (l.findIdx? p))) ∧ Below w.heap.size w w' := by
  have Hv := Lib.hid hv
  obtain ⟨a, cap, rfl, hn, hc, -⟩ := hv.open
  clear hv
  go_enter Try.func99, Try.ntmps99
  go_wp2_with fail
  go_loopg [4, 5, 8] l.length (fun n r i k wr => ∃ j : Nat, j ≤ l.length ∧ n = l.length - j ∧ k = .int .i64 j ∧ Below w.heap.size w wr ∧ S wr ∧ (l.take j).findIdx? p = none)
  case atStart => exact ⟨0, by omega, by omega, rfl, ext_refl _, hw, rfl⟩
  case round =>
    obtain ⟨j, hj, hgk, rfl, hb, hs, hf0⟩ := hrel
    have Hf := Lib.hid hf0; have Hs := Lib.hid hs; have Hh := Lib.hid hf; have HS := Lib.hid hS; have Hk := Lib.hid hgk
    clear hf0 hs hf hS hgk
    by_cases hlt : j < l.length
    · obtain ⟨g, rfl, _, hg, _, c0⟩ := (Hv.out.ext hb).at_ hlt
      have Hj := Lib.hid (getD_of l j 0 hlt)
      obtain ⟨b, hbe⟩ : ∃ b, Hid (b = l.getD j 0) := ⟨_, rfl⟩
      rw [← hbe.out] at c0 Hj
      go_wp2_with fail
      refine (Hh.out b wr Hs.out).mono ?_
      rintro e w' ⟨rfl, hb3⟩
      have hb4 := ext_trans hb hb3
      have HS' := Lib.hid (HS.out _ _ Hs.out hb3)
      by_cases hp : p b = true
      · rw [hp]
        go_wp2
        go_ret
        refine ⟨?_, hb4⟩
        have hb2 := Hj.out; have hf0 := Hf.out
        rw [findIdx_at p l j b hb2 hf0 hp]; rfl
      · simp only [Bool.not_eq_true] at hp
        rw [hp]
        go_wp2
        go_roundg (l.length - (j+1))
        case rel => exact ⟨j+1, by omega, rfl, by go_num, hb4, HS'.out, findIdx_next p l j b Hj.out Hf.out hp⟩
        case measure => have := Hk.out; omega
    · go_wp2
      go_ret
      refine ⟨?_, hb⟩
      have hf0 := Hf.out
      have : j = l.length := by omega
      subst this
      simp at hf0
      rw [show l.findIdx? p = none by simpa using hf0]; rfl
set_option maxHeartbeats 400000 in
theorem containsFuncI (fv : FuncId) (cp : Array Value) (p : Int → Bool) (S : World → Prop) (hS : ∀ w w', S w → Below w.heap.size w w' → S w')
   (hf : ∀ b w, S w → Calls Try.prog fv (#[.int .i64 b] ++ cp) w (fun e w' => e = .returned (.bool (p b)) ∧ Below w.heap.size w w'))
   (hcf : ∀ args w, (callFunc fv args).run Try.prog w = .ok (.enter fv args) w)
   (v : Value) (l : List Int) (w : World) (hw : S w) (hv : Ints w 0 v l) :
    Calls Try.prog 97 #[v, .func (.func fv) #[] cp] w fun e w' => e = .returned (.bool (l.any p)) ∧ Below w.heap.size w w' := by
  have H := Lib.hid (indexFuncI fv cp p S hS hf hcf v l w hw hv)
  clear hS hf hcf hv
  go_enter Try.func97, Try.ntmps97
  go_wp2_with fail
  refine H.out.mono ?_
  rintro e w' ⟨rfl, hb⟩
  go_wp2_with fail
  go_ret
  exact ⟨by rw [fidx_nonneg]; simp, hb⟩
theorem app2 (x y z : Value) : (#[x] ++ #[y, z] : Array Value) = #[x, y, z] := rfl
set_option maxHeartbeats 400000 in
theorem impl_allIn1 (n low high : Int) (g g' : Nat) (w : World) (c0 : w.cell? ⟨g, 0, none⟩ = some (.int .i64 low)) (c1 : w.cell? ⟨g', 0, none⟩ = some (.int .i64 high)) :
    Calls Try.prog 98 #[.int .i64 n, .pointer (some ⟨g, 0, none⟩), .pointer (some ⟨g', 0, none⟩)] w fun e w' => e = .returned (.bool (!inB n low high)) ∧ Below w.heap.size w w' := by
  go_enter Try.func98, Try.ntmps98
  go_wp2_with (go_at_call 53; refine (impl_in _ _ _ _).mono ?_; rintro e w' ⟨rfl, rfl⟩)
  go_ret
  exact ⟨rfl, ext_refl _⟩
theorem call_allIn1 (args : Array Value) (w : World) : (callFunc 98 args).run Try.prog w = .ok (.enter 98 args) w := by go_simp
set_option maxHeartbeats 1000000 in
theorem impl_allIn (v : Value) (l : List Int) (low high : Int) (w : World) (hv : Ints w 0 v l) :
    Calls Try.prog 87 #[v, .int .i64 low, .int .i64 high] w fun e w' => e = .returned (.bool (l.all fun n => inB n low high)) ∧ Below w.heap.size w w' := by
  have Hv := Lib.hid hv
  obtain ⟨a, cap, rfl, hn, hc, -⟩ := hv.open
  clear hv
  go_enter Try.func87, Try.ntmps87
  go_wp2_with fail
  refine (containsFuncI 98 #[.pointer (some ⟨w.heap.size, 0, none⟩), .pointer (some ⟨w.heap.size + 1, 0, none⟩)] (fun n => !inB n low high)
      (fun w' => w.heap.size + 1 < w'.heap.size ∧ w'.cell? ⟨w.heap.size, 0, none⟩ = some (.int .i64 low) ∧ w'.cell? ⟨w.heap.size + 1, 0, none⟩ = some (.int .i64 high))
      (fun w1 w2 h1 h2 => ⟨by have := h2.size; omega, by rw [h2.cell (by have := h1.1; dsimp only; omega)]; exact h1.2.1, by rw [h2.cell (by have := h1.1; dsimp only; omega)]; exact h1.2.2⟩)
      (fun b w1 h1 => by rw [app2]; exact impl_allIn1 b low high w.heap.size (w.heap.size + 1) w1 h1.2.1 h1.2.2) call_allIn1 _ l _ (by simp) (Hv.out.ext (ext_alloc (ext_alloc (ext_refl _) _) _))).mono ?_
  rintro e w1 ⟨rfl, hb1⟩
  go_wp2_with fail
  go_ret
  refine ⟨?_, ?_⟩
  · rw [any_not_eq]; rfl
  · repeat (first | exact ext_refl _ | (refine ext_trans ?_ (by assumption)) | refine ext_alloc ?_ _ | refine ext_drew ?_ | (refine ext_set ?_ (by first | (simp; done) | (simp; omega)) _))
end Go.Proofs.Ytffcfambgcaikaa
