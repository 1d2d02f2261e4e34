/- The walks of the tests on projects: impl.ProjectOk and spec.ProjectOk report Pj.ok; impl.after tells a bit. Conditions: the numbers can be read; of after: it is in reach and not negative. -/
import Derived.Test.YtdfcjhcnojgkiaaAllIn
import Derived.Test.YtdfcjhcnojgkiaaApp
import Derived.Test.YtdfcjhcnojgkiaaTail
import Derived.Test.YtdfcjhcnojgkiaaTaskMath
import Derived.Deep.Cut
import Derived.Laws.BitsLemmas
namespace Go.Proofs.Ytdfcjhcnojgkiaa
open Go.RowKit
set_option linter.unusedVariables false
set_option linter.unusedSimpArgs false
theorem take_all_next {α : Type} (l : List α) (j : Nat) (b : α) (p : α → Bool) (hb : l[j]? = some b) (h : (l.take j).all p = true) (hp : p b = true) : (l.take (j+1)).all p = true := by
  rw [List.take_add_one, hb]
  simp at *
  exact ⟨h, hp⟩
structure Pj where
  lo : List Int
  af : List Int
  deriving DecidableEq
def Pj.L (p : Pj) (k : Nat) : Int := p.lo.getD k 0
def Pj.A (p : Pj) (k : Nat) : Int := p.af.getD k 0
def topOf (i : Nat) : Int := 2 ^ (min i 20) - 1
def Pj.ok (p : Pj) : Bool := (decide (p.lo.length ≤ 6) && decide (p.af.length = p.lo.length)) && (p.lo.all (fun n => inB n 1 20) && (List.range p.af.length).all (fun i => inB (p.A i) 0 (topOf i)))
theorem top_wrap (j : Nat) (h : j ≤ 20) : wrap64 (wrap64 (2 ^ j) - 1) = topOf j := by
  have key : ∀ i : Fin 21, 1 ≤ (2 : Int) ^ i.val ∧ (2 : Int) ^ i.val ≤ 1048576 := by decide
  have := key ⟨j, by omega⟩
  dsimp only at this
  have e1 : wrap64 ((2 : Int) ^ j) = 2 ^ j := IntWalk.wrap64_in _ (by omega)
  rw [e1, IntWalk.wrap64_in _ (by omega), topOf, Nat.min_eq_left h]
theorem top_wrap2 (j : Nat) (h : j ≤ 20) : IntKind.i64.wrap (IntKind.i64.wrap (2 ^ j) - 1) = topOf j := by
  have key : ∀ i : Fin 21, 1 ≤ (2 : Int) ^ i.val ∧ (2 : Int) ^ i.val ≤ 1048576 := by decide
  have := key ⟨j, by omega⟩
  dsimp only at this
  rw [topOf, Nat.min_eq_left h, IntKind.wrap_i64, IntKind.wrap_i64]
  omega
theorem top_wrap3 (j : Nat) (h : ¬ j ≤ 20) : IntKind.i64.wrap (IntKind.i64.wrap 1048576 - 1) = topOf j := by
  rw [topOf, Nat.min_eq_right (by omega)]; decide
theorem top_le (j : Nat) : 0 ≤ topOf j ∧ topOf j ≤ 1048575 := by
  have key : ∀ i : Fin 21, 0 ≤ topOf i.val ∧ topOf i.val ≤ 1048575 := by decide
  have e : topOf j = topOf (min j 20) := by unfold topOf; rw [Nat.min_eq_left (Nat.min_le_right j 20)]
  rw [e]; exact key ⟨min j 20, by omega⟩
theorem wraps_i64 (n : Int) (h₀ : 0 ≤ n) (h₁ : n < 2 ^ 62) : IntKind.i64.wrap n = n := by rw [IntKind.wrap_i64]; omega
theorem and_one (y : Int) (h0 : 0 ≤ y) (h1 : y ≤ 1048576) : bits BinOp.and IntKind.i64 y 1 = y % 2 :=
  bits_mask .i64 62 (by decide) wraps_i64 1 (by decide) y h0 (by omega)
theorem div_pow_le (x : Int) (k : Nat) (h0 : 0 ≤ x) (h1 : x ≤ 1048576) : 0 ≤ x / 2 ^ k ∧ x / 2 ^ k ≤ 1048576 := by
  have hp : (0 : Int) < 2 ^ k := Int.pow_pos (by decide)
  exact ⟨Int.ediv_nonneg h0 (by omega), Int.le_trans (Int.ediv_le_self _ h0) h1⟩
theorem and_bit (x : Int) (k : Nat) (h0 : 0 ≤ x) (h1 : x ≤ 1048576) : (bits BinOp.and IntKind.i64 (x / 2 ^ k) 1 == 1) = bit x k := by
  have := div_pow_le x k h0 h1
  rw [and_one _ this.1 this.2]; rfl
theorem ok_upto {p : Pj} (h : p.ok = true) : p.lo.length ≤ 6 ∧ p.af.length = p.lo.length ∧ (∀ k, k < p.lo.length → 1 ≤ p.L k ∧ p.L k ≤ 20) ∧ ∀ k, k < p.lo.length → 0 ≤ p.A k ∧ p.A k < 2 ^ k := by
  simp only [Pj.ok, Bool.and_eq_true, decide_eq_true_eq, List.all_eq_true] at h
  obtain ⟨⟨h1, h2⟩, h3, h4⟩ := h
  refine ⟨h1, h2, fun k hk => ?_, fun k hk => ?_⟩
  · have := h3 (p.L k) (by unfold Pj.L; rw [List.getD_eq_getElem?_getD, List.getElem?_eq_getElem hk]; exact List.getElem_mem hk)
    exact (inB_iff _ _ _).1 this
  · have := h4 k (by simp; omega)
    rw [inB_iff, topOf, Nat.min_eq_left (by omega)] at this
    omega
theorem not_ok_at {p : Pj} {j : Nat} (hj : j < p.af.length) (h : inB (p.A j) 0 (topOf j) = false) : p.ok = false := by
  have : (List.range p.af.length).all (fun i => inB (p.A i) 0 (topOf i)) = false := by
    rw [List.all_eq_false]
    exact ⟨j, by simp; exact hj, by simp [h]⟩
  simp [Pj.ok, this]
set_option maxHeartbeats 2000000 in
theorem impl_after (p : Pj) (v1 v2 : Value) (i k : Nat) (w : World) (h1 : Ints w 0 v1 p.lo) (h2 : Ints w 0 v2 p.af) (hi : i < p.af.length) (hk : k < 60) (h0 : 0 ≤ p.A i ∧ p.A i ≤ 1048576) :
    Calls Try.prog 37 #[.agg #[v1, v2], .int .i64 i, .int .i64 k] w fun e w' => e = .returned (.bool (bit (p.A i) k)) ∧ Below w.heap.size w w' := by
  have H2 := Lib.hid h2
  obtain ⟨a1, c1, rfl, hn1, hc1, -⟩ := h1.open
  obtain ⟨a2, c2, rfl, hn2, hc2, -⟩ := h2.open
  clear h1 h2
  obtain ⟨g, rfl, _, hg, _, cx⟩ := H2.out.at_ hi
  obtain ⟨x, hx⟩ : ∃ x, Hid (x = p.A i) := ⟨_, rfl⟩
  rw [← hx.out] at h0 ⊢
  rw [show p.af.getD i 0 = x from hx.out.symm] at cx
  go_enter Try.func37, Try.ntmps37
  go_wp2_with fail
  go_ret
  refine ⟨?_, ext_alloc (ext_refl _) _⟩
  rw [← and_bit x k h0.1 h0.2]; rfl
set_option maxHeartbeats 2000000 in
theorem impl_ProjectOk (p : Pj) (v1 v2 : Value) (w : World) (h1 : Ints w 0 v1 p.lo) (h2 : Ints w 0 v2 p.af) :
    Calls Try.prog 53 #[.agg #[v1, v2]] w fun e w' => e = .returned (.bool p.ok) ∧ Below w.heap.size w w' := by
  have H1 := Lib.hid h1; have H2 := Lib.hid h2
  obtain ⟨a1, c1, rfl, hn1, hc1, -⟩ := h1.open
  obtain ⟨a2, c2, rfl, hn2, hc2, -⟩ := h2.open
  clear h1 h2
  by_cases hbig : 6 < p.lo.length
  · have hb := Lib.hid hbig
    go_enter Try.func53, Try.ntmps53
    go_wp2_with fail
    go_ret
    refine ⟨?_, ext_alloc (ext_refl _) _⟩
    have : p.ok = false := by have := hb.out; simp [Pj.ok]; omega
    rw [this]; rfl
  by_cases hlen : p.af.length = p.lo.length
  · have he : ((p.af.length : Int) != (p.lo.length : Int)) = false := by simp [hlen]
    have Hlen := Lib.hid hlen
    have hl : p.af.length ≤ 6 := by omega
    clear hlen
    go_enter Try.func53, Try.ntmps53
    go_wp2_with fail
    obtain ⟨W, hW, A0, hs, E⟩ := one_box w #[.slice a1 p.lo.length c1, .slice a2 p.af.length c2] 27
    rw [← hW.out]
    refine (impl_allIn _ p.lo 1 20 _ (H1.out.ext E)).mono ?_
    rintro e w1 ⟨rfl, hb1⟩
    have A0 := A0.ext hb1
    have E := ext_trans E hb1
    obtain ⟨rc0, rz0⟩ := (A0).rules; have rl0 := (A0).lt
    cases hall : p.lo.all (fun n => inB n 1 20)
    · go_wp2_with fail
      go_ret
      exact ⟨by rw [show p.ok = false by simp [Pj.ok, hall]]; rfl, E⟩
    · go_wp2_with fail
      go_loopg [27] p.af.length (fun m k wr => ∃ j : Nat, j ≤ p.af.length ∧ m = p.af.length - j ∧ k = .int .i64 j ∧ wr = w1 ∧ Hid (∀ i, i < j → inB (p.A i) 0 (topOf i) = true))
      case atStart => exact ⟨0, by omega, by omega, rfl, rfl, fun i hi => by omega⟩
      case round =>
        obtain ⟨j, hj, hgk, rfl, rfl, Hall⟩ := hrel
        have Hk := Lib.hid hgk
        clear hgk
        by_cases hlt : j < p.af.length
        · obtain ⟨g, rfl, _, hg, _, cx⟩ := (H2.out.ext E).at_ hlt
          obtain ⟨x, hx⟩ : ∃ x, Hid (x = p.A j) := ⟨_, rfl⟩
          rw [show p.af.getD j 0 = x from hx.out.symm] at cx
          go_wp2_with fail
          rw [top_wrap j (by omega)]
          refine (impl_in _ _ _ _).mono ?_
          rintro e w' ⟨rfl, rfl⟩
          cases hin : inB x 0 (topOf j)
          · go_wp2_with fail
            go_ret
            refine ⟨?_, E⟩
            rw [not_ok_at hlt (by rw [← hx.out]; exact hin)]; rfl
          · go_wp2_with fail
            go_roundg (p.af.length - (j+1))
            case rel =>
              refine ⟨j+1, by omega, rfl, by go_num, rfl, fun i hi => ?_⟩
              by_cases hij : i = j
              · subst hij; rw [← hx.out]; exact hin
              · exact Hall.out i (by omega)
            case measure => have := Hk.out; omega
        · have hjl : j = p.af.length := by omega
          subst hjl
          go_wp2_with fail
          go_ret
          refine ⟨?_, E⟩
          have : p.ok = true := by
            have h := Hlen.out
            simp only [Pj.ok, Bool.and_eq_true, decide_eq_true_eq]
            refine ⟨⟨by omega, h⟩, hall, ?_⟩
            rw [List.all_eq_true]
            intro i hi
            exact Hall.out i (by simpa using hi)
          rw [this]; rfl
  · have he : ((p.af.length : Int) != (p.lo.length : Int)) = true := by simp; omega
    have Hlen := Lib.hid hlen
    clear hlen
    go_enter Try.func53, Try.ntmps53
    go_wp2_with fail
    go_ret
    refine ⟨?_, ext_alloc (ext_refl _) _⟩
    rw [show p.ok = false by simp [Pj.ok, Hlen.out]]; rfl
set_option maxRecDepth 100000 in
set_option maxHeartbeats 4000000 in
theorem spec_ProjectOk (p : Pj) (v1 v2 : Value) (w : World) (h1 : Ints w 0 v1 p.lo) (h2 : Ints w 0 v2 p.af) :
    Calls Try.prog 40 #[.agg #[v1, v2]] w fun e w' => e = .returned (.bool p.ok) ∧ Below w.heap.size w w' := by
  have H1 := Lib.hid h1; have H2 := Lib.hid h2
  obtain ⟨a1, c1, rfl, hn1, hc1, -⟩ := h1.open
  obtain ⟨a2, c2, rfl, hn2, hc2, -⟩ := h2.open
  clear h1 h2
  go_enter Try.func40, Try.ntmps40
  go_wp2_with fail
  obtain ⟨W, hW, A0, hs, E⟩ := one_box w #[.slice a1 p.lo.length c1, .slice a2 p.af.length c2] 27
  rw [← hW.out]
  obtain ⟨rc0, rz0⟩ := (A0).rules; have rl0 := (A0).lt
  go_loopg [3] p.lo.length (fun m k wr => ∃ j : Nat, j ≤ p.lo.length ∧ m = p.lo.length - j ∧ k = .int .i64 j ∧ wr = W ∧ Hid ((p.lo.take j).all (fun n => inB n 1 20) = true))
  case atStart => exact ⟨0, by omega, by omega, rfl, rfl, Lib.hid (by simp)⟩
  case round =>
    obtain ⟨j, hj, hgk, rfl, rfl, Hall⟩ := hrel
    have Hk := Lib.hid hgk
    clear hgk
    by_cases hlt : j < p.lo.length
    · obtain ⟨g, rfl, _, hg, _, cx⟩ := (H1.out.ext E).at_ hlt
      have Hj := Lib.hid (getD_of p.lo j 0 hlt)
      obtain ⟨x, hx⟩ : ∃ x, Hid (x = p.lo.getD j 0) := ⟨_, rfl⟩
      rw [← hx.out] at cx Hj
      go_wp2_with fail
      refine (spec_l1In _ _ _ _).mono ?_
      rintro e w' ⟨rfl, rfl⟩
      cases hin : inB x 1 20
      · go_wp2_with fail
        go_ret
        refine ⟨?_, E⟩
        have : p.lo.all (fun n => inB n 1 20) = false := by
          rw [List.all_eq_false]
          exact ⟨x, List.mem_of_getElem? Hj.out, by simp [hin]⟩
        rw [show p.ok = false by simp [Pj.ok, this]]; rfl
      · go_wp2_with fail
        go_roundg (p.lo.length - (j+1))
        case rel => exact ⟨j+1, by omega, rfl, by go_num, rfl, take_all_next _ _ x _ Hj.out Hall.out hin⟩
        case measure => have := Hk.out; omega
    · have hjl : j = p.lo.length := by omega
      subst hjl
      have hall : Hid (p.lo.all (fun n => inB n 1 20) = true) := by have := Hall.out; rw [List.take_length] at this; exact this
      clear Hall
      go_wp2_with fail
      go_loopg [4] p.af.length (fun m k wx => ∃ j : Nat, j ≤ p.af.length ∧ m = p.af.length - j ∧ k = .int .i64 j ∧ Below wr.heap.size wr wx ∧ Hid (∀ i, i < j → inB (p.A i) 0 (topOf i) = true))
      case atStart => exact ⟨0, by omega, by omega, rfl, ext_refl _, fun i hi => by omega⟩
      case round =>
        clear rc0 rz0 rl0
        rename World => wx
        obtain ⟨j, hj, hgk, rfl, hbel, Hall⟩ := hrel
        have Hk := Lib.hid hgk
        clear hgk
        have B0 := A0.ext hbel
        obtain ⟨rc0, rz0⟩ := (B0).rules; have rl0 := (B0).lt
        by_cases hlt : j < p.af.length
        · obtain ⟨g, rfl, _, hg, _, cx⟩ := (H2.out.ext (ext_trans E hbel)).at_ hlt
          obtain ⟨x, hx⟩ : ∃ x, Hid (x = p.A j) := ⟨_, rfl⟩
          rw [show p.af.getD j 0 = x from hx.out.symm] at cx
          go_wp2_with fail
          have hx2 := Lib.hid (top_le j)
          by_cases h20 : j ≤ 20
          · go_region_held3 (fun w' => w'.cell? ⟨w.heap.size, 1, none⟩ = some (.slice (some ⟨g, 0, none⟩) p.af.length c2) ∧ w'.cell? ⟨g, j, none⟩ = some (.int .i64 x))
              (first | exact ⟨B0.cell0 rfl, cx⟩)
              (first | (go_at_call 34; refine (spec_l1In _ _ _ _).mono ?_; rintro e w' ⟨rfl, rfl⟩))
            rw [top_wrap2 j h20]
            cases hin : inB x 0 (topOf j)
            · go_wp2_with fail
              go_ret
              refine ⟨?_, ext_trans E (ext_drew hbel)⟩
              rw [not_ok_at hlt (by rw [← hx.out]; exact hin)]; rfl
            · go_wp2_with fail
              go_roundg (p.af.length - (j+1))
              case rel =>
                refine ⟨j+1, by omega, rfl, by go_num, ext_drew hbel, fun i hi => ?_⟩
                by_cases hij : i = j
                · subst hij; rw [← hx.out]; exact hin
                · exact Hall.out i (by omega)
              case measure => have := Hk.out; omega
          · go_region_held3 (fun w' => w'.cell? ⟨w.heap.size, 1, none⟩ = some (.slice (some ⟨g, 0, none⟩) p.af.length c2) ∧ w'.cell? ⟨g, j, none⟩ = some (.int .i64 x))
              (first | exact ⟨B0.cell0 rfl, cx⟩)
              (first | (go_at_call 34; refine (spec_l1In _ _ _ _).mono ?_; rintro e w' ⟨rfl, rfl⟩))
            rw [top_wrap3 j h20]
            cases hin : inB x 0 (topOf j)
            · go_wp2_with fail
              go_ret
              refine ⟨?_, ext_trans E (ext_drew hbel)⟩
              rw [not_ok_at hlt (by rw [← hx.out]; exact hin)]; rfl
            · go_wp2_with fail
              go_roundg (p.af.length - (j+1))
              case rel =>
                refine ⟨j+1, by omega, rfl, by go_num, ext_drew hbel, fun i hi => ?_⟩
                by_cases hij : i = j
                · subst hij; rw [← hx.out]; exact hin
                · exact Hall.out i (by omega)
              case measure => have := Hk.out; omega
        · have hjl : j = p.af.length := by omega
          subst hjl
          have this : p.ok = (decide (p.lo.length ≤ 6) && decide (p.af.length = p.lo.length)) := by
            have h2 : (List.range p.af.length).all (fun i => inB (p.A i) 0 (topOf i)) = true := by
              rw [List.all_eq_true]
              intro i hi
              exact Hall.out i (by simpa using hi)
            unfold Pj.ok
            rw [hall.out, h2]; simp
          have Hthis := Lib.hid this
          clear this
          by_cases hbig : 6 < p.lo.length
          · go_wp2_with fail
            go_ret
            refine ⟨?_, ext_trans E hbel⟩
            rw [Hthis.out, decide_eq_false (by omega)]; rfl
          · by_cases hlen : p.af.length = p.lo.length
            · have he : ((p.af.length : Int) == (p.lo.length : Int)) = true := by simp [hlen]
              have Hlen := Lib.hid hlen
              clear hlen
              go_wp2_with fail
              go_ret
              refine ⟨?_, ext_trans E hbel⟩
              rw [Hthis.out, decide_eq_true (by omega), decide_eq_true Hlen.out]; rfl
            · have he : ((p.af.length : Int) == (p.lo.length : Int)) = false := by simp; omega
              have Hlen := Lib.hid hlen
              clear hlen
              go_wp2_with fail
              go_ret
              refine ⟨?_, ext_trans E hbel⟩
              rw [Hthis.out, decide_eq_false Hlen.out, Bool.and_false]; rfl
end Go.Proofs.Ytdfcjhcnojgkiaa
