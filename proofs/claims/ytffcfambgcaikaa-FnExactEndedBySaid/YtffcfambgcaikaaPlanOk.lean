/- The walks of the tests on plans: impl.PlanOk and spec.PlanOk report 'Pl.ok' of whatever plan they are given, and turn nothing that was there. No condition but that the plan's bounds can be read. -/
import Derived.Test.YtffcfambgcaikaaBase
namespace Go.Proofs.Ytffcfambgcaikaa
open Go.RowKit
set_option linter.unusedVariables false
set_option linter.unusedSimpArgs false
set_option maxHeartbeats 400000 in
theorem indexFuncB (fv : FuncId) (cp : Array Value) (p : Bd → Bool) (S : World → Prop) (hS : ∀ w w', S w → Below w.heap.size w w' → S w')
   (hf : ∀ b w, S w → Calls Try.prog fv (#[b.val] ++ cp) w (fun e w' => e = .returned (.bool (p b)) ∧ Below w.heap.size w w'))
   (hcf : ∀ args w, (callFunc fv args).run Try.prog w = .ok (.enter fv args) w)
   (v : Value) (l : List Bd) (w : World) (hw : S w) (hv : Bds w 0 v l) :
    Calls Try.prog 88 #[v, .func (.func fv) #[] cp] w fun e w' => e = .returned (.int .i64 (fidx (l.findIdx? p))) ∧ Below w.heap.size w w' := by
  obtain ⟨a, cap, rfl, hn, hc, hcell⟩ := hv.open
  go_enter Try.func88, Try.ntmps88
  go_wp2_with fail
  go_loopg [4, 5, 8] l.length (fun n r i k wr => ∃ j : Nat, j ≤ l.length ∧ n = l.length - j ∧ k = .int .i64 j ∧ Below w.heap.size w wr ∧ S wr ∧ (l.take j).findIdx? p = none)
  case atStart => exact ⟨0, by omega, by omega, rfl, ext_refl _, hw, rfl⟩
  case round =>
    obtain ⟨j, hj, hgk, rfl, hb, hs, hf0⟩ := hrel
    by_cases hlt : j < l.length
    · obtain ⟨g, rfl, hg0, hg, _, hc2⟩ := hcell j hlt
      obtain ⟨c0, c1, c2⟩ := hc2 j hlt
      have d0 : wr.cell? ⟨g, j*3, none⟩ = some (.int .i64 (l.getD j Bd.z).f) := by rw [hb.cell (by exact hg), c0]
      have d1 : wr.cell? ⟨g, j*3+1, none⟩ = some (.int .i64 (l.getD j Bd.z).t) := by rw [hb.cell (by exact hg), c1]
      have d2 : wr.cell? ⟨g, j*3+2, none⟩ = some (.int .i64 (l.getD j Bd.z).m) := by rw [hb.cell (by exact hg), c2]
      have Hf := Lib.hid hf0; have Hs := Lib.hid hs; have Hh := Lib.hid hf; have HS := Lib.hid hS; have Hk := Lib.hid hgk
      have Hj := Lib.hid (getD_of l j Bd.z hlt)
      clear hf0 c0 c1 c2 hc2 hcell hs hf hS hgk
      generalize l.getD j Bd.z = b at *
      go_wp2_with fail
      refine (Hh.out b wr Hs.out).mono ?_
      rintro e w' ⟨rfl, hb3⟩
      have hb4 := ext_trans hb hb3
      have HS' := Lib.hid (HS.out _ _ Hs.out hb3)
      by_cases hp : p b = true
      · rw [hp]
        go_wp2
        go_ret
        refine ⟨?_, hb4⟩
        have hb2 := Hj.out; have hf0 := Hf.out
        rw [findIdx_at p l j b hb2 hf0 hp]; rfl
      · simp only [Bool.not_eq_true] at hp
        rw [hp]
        go_wp2
        go_roundg (l.length - (j+1))
        case rel => exact ⟨j+1, by omega, rfl, by go_num, hb4, HS'.out, findIdx_next p l j b Hj.out Hf.out hp⟩
        case measure => have := Hk.out; omega
    · go_wp2
      go_ret
      refine ⟨?_, hb⟩
      have : j = l.length := by omega
      subst this
      simp at hf0
      rw [show l.findIdx? p = none by simpa using hf0]; rfl
theorem app1 (x y : Value) : (#[x] ++ #[y] : Array Value) = #[x, y] := rfl
set_option maxHeartbeats 400000 in
theorem containsFuncB (fv : FuncId) (cp : Array Value) (p : Bd → Bool) (S : World → Prop) (hS : ∀ w w', S w → Below w.heap.size w w' → S w')
   (hf : ∀ b w, S w → Calls Try.prog fv (#[b.val] ++ cp) w (fun e w' => e = .returned (.bool (p b)) ∧ Below w.heap.size w w'))
   (hcf : ∀ args w, (callFunc fv args).run Try.prog w = .ok (.enter fv args) w)
   (v : Value) (l : List Bd) (w : World) (hw : S w) (hv : Bds w 0 v l) :
    Calls Try.prog 58 #[v, .func (.func fv) #[] cp] w fun e w' => e = .returned (.bool (l.any p)) ∧ Below w.heap.size w w' := by
  have H := Lib.hid (indexFuncB fv cp p S hS hf hcf v l w hw hv)
  clear hS hf hcf hv
  go_enter Try.func58, Try.ntmps58
  go_wp2_with fail
  refine H.out.mono ?_
  rintro e w' ⟨rfl, hb⟩
  go_wp2_with fail
  go_ret
  exact ⟨by rw [fidx_nonneg]; simp, hb⟩
set_option maxHeartbeats 400000 in
theorem impl_in (n low high : Int) (w : World) :
    Calls Try.prog 53 #[.int .i64 n, .int .i64 low, .int .i64 high] w fun e w' => e = .returned (.bool (inB n low high)) ∧ w = w' := by
  go_enter Try.func53, Try.ntmps53
  go_wp2
  all_goals (go_ret; refine ⟨?_, rfl⟩; simp [inB, *])
  omega
set_option maxHeartbeats 400000 in
theorem impl_has (pts : Int) (bs : Value) (n : Int) (w : World) (h0 : -1000 ≤ pts) (h1 : pts ≤ 1000):
    Calls Try.prog 52 #[.agg #[.int .i64 pts, bs], .int .i64 n] w fun e w' => e = .returned (.bool (inB n 0 (pts-1))) ∧ Below w.heap.size w w' := by
  go_enter Try.func52, Try.ntmps52
  go_wp2_with (go_at_call 53; refine (impl_in _ _ _ _).mono ?_; rintro e w' ⟨rfl, rfl⟩)
  go_ret
  exact ⟨rfl, ext_alloc (ext_refl _) _⟩
def Bd.ok (pts : Int) (b : Bd) : Bool := inB b.f 0 (pts-1) && (inB b.t 0 (pts-1) && inB b.m (-99) 99)
def Pl.ok (p : Pl) : Bool := inB p.pts 1 6 && (decide (p.bs.length ≤ 16) && p.bs.all (Bd.ok p.pts))
set_option maxHeartbeats 400000 in
theorem impl_boundOk (pts : Int) (bs : Value) (b : Bd) (w : World) (h0 : -1000 ≤ pts) (h1 : pts ≤ 1000):
    Calls Try.prog 83 #[.agg #[.int .i64 pts, bs], b.val] w fun e w' => e = .returned (.bool (b.ok pts)) ∧ Below w.heap.size w w' := by
  unfold Bd.val
  go_enter Try.func83, Try.ntmps83
  go_wp2_with fail
  refine (impl_has _ _ _ _ h0 h1).mono ?_
  rintro e w1 ⟨rfl, hb1⟩
  obtain ⟨hc1, hf1, hz1⟩ := bcell hb1
  simp only [World.size_alloc] at hz1
  go_wp2_with fail
  · refine (impl_has _ _ _ _ h0 h1).mono ?_
    rintro e w2 ⟨rfl, hb2⟩
    obtain ⟨hc2, hf2, hz2⟩ := bcell hb2
    have hs1 : w.heap.size < w1.heap.size := by omega
    have hs2 : w.heap.size + 1 < w1.heap.size := by omega
    go_wp2_with (go_at_call 53; refine (impl_in _ _ _ _).mono ?_; rintro e w' ⟨rfl, rfl⟩)
    · go_ret
      refine ⟨by simp [Bd.ok, *], ?_⟩
      repeat (first | exact ext_refl _ | (refine ext_trans ?_ (by assumption)) | refine ext_alloc ?_ _ | refine ext_drew ?_ | (refine ext_set ?_ (by first | (simp; done) | (simp; omega)) _))
    · go_ret
      refine ⟨by simp [Bd.ok, *], ?_⟩
      repeat (first | exact ext_refl _ | (refine ext_trans ?_ (by assumption)) | refine ext_alloc ?_ _ | refine ext_drew ?_ | (refine ext_set ?_ (by first | (simp; done) | (simp; omega)) _))
  · go_ret
    refine ⟨by simp [Bd.ok, *], ?_⟩
    repeat (first | exact ext_refl _ | (refine ext_trans ?_ (by assumption)) | refine ext_alloc ?_ _ | refine ext_drew ?_ | (refine ext_set ?_ (by first | (simp; done) | (simp; omega)) _))
set_option maxHeartbeats 400000 in
theorem impl_PlanOk1 (pts : Int) (bs : Value) (b : Bd) (g : Nat) (w : World) (h0 : -1000 ≤ pts) (h1 : pts ≤ 1000) (hg : g < w.heap.size)
    (c0 : w.cell? ⟨g, 0, none⟩ = some (.int .i64 pts)) (c1 : w.cell? ⟨g, 1, none⟩ = some bs) :
    Calls Try.prog 82 #[b.val, .pointer (some ⟨g, 0, none⟩)] w fun e w' => e = .returned (.bool (!b.ok pts)) ∧ Below w.heap.size w w' := by
  unfold Bd.val
  go_enter Try.func82, Try.ntmps82
  go_wp2_with fail
  refine (impl_boundOk pts bs b _ h0 h1).mono ?_
  rintro e w1 ⟨rfl, hb1⟩
  go_wp2_with fail
  go_ret
  refine ⟨rfl, ?_⟩
  repeat (first | exact ext_refl _ | (refine ext_trans ?_ (by assumption)) | refine ext_alloc ?_ _ | refine ext_drew ?_ | (refine ext_set ?_ (by first | (simp; done) | (simp; omega)) _))
theorem call_PlanOk1 (args : Array Value) (w : World) : (callFunc 82 args).run Try.prog w = .ok (.enter 82 args) w := by go_simp
theorem inB_iff (n l h : Int) : inB n l h = true ↔ l ≤ n ∧ n ≤ h := by simp [inB]
theorem any_not_eq {α : Type} (l : List α) (p : α → Bool) : (!(l.any fun b => !p b)) = l.all p := by
  induction l with
  | nil => rfl
  | cons a l ih => simp at *; rw [ih]; simp
set_option maxHeartbeats 1000000 in
theorem impl_PlanOk (p : Pl) (bs : Value) (w : World) (hv : Bds w 0 bs p.bs) :
    Calls Try.prog 49 #[.agg #[.int .i64 p.pts, bs]] w fun e w' => e = .returned (.bool p.ok) ∧ Below w.heap.size w w' := by
  have Hv := Lib.hid hv
  obtain ⟨a, cap, rfl, hn, hc, hcell⟩ := hv.open
  clear hv hcell
  go_enter Try.func49, Try.ntmps49
  go_wp2_with (go_at_call 53; refine (impl_in _ _ _ _).mono ?_; rintro e w' ⟨rfl, rfl⟩)
  · have hpts : 1 ≤ p.pts ∧ p.pts ≤ 6 := (inB_iff _ _ _).1 (by assumption)
    refine (containsFuncB 82 #[.pointer (some ⟨w.heap.size, 0, none⟩)] (fun b => !b.ok p.pts) (fun w' => w.heap.size < w'.heap.size ∧ w'.cell? ⟨w.heap.size, 0, none⟩ = some (.int .i64 p.pts) ∧ w'.cell? ⟨w.heap.size, 1, none⟩ = some (.slice a p.bs.length cap))
      (fun w1 w2 h1 h2 => ⟨by have := h2.size; omega, by rw [h2.cell (by exact h1.1)]; exact h1.2.1, by rw [h2.cell (by exact h1.1)]; exact h1.2.2⟩)
      (fun b w1 h1 => by rw [app1]; exact impl_PlanOk1 p.pts _ b w.heap.size w1 (by omega) (by omega) h1.1 h1.2.1 h1.2.2) call_PlanOk1 _ p.bs _ (by simp) (Hv.out.ext (ext_alloc (ext_refl _) _))).mono ?_
    rintro e w1 ⟨rfl, hb1⟩
    go_wp2_with fail
    go_ret
    refine ⟨?_, ?_⟩
    · rw [any_not_eq]; simp [Pl.ok, *]; intro _; omega
    · repeat (first | exact ext_refl _ | (refine ext_trans ?_ (by assumption)) | refine ext_alloc ?_ _ | refine ext_drew ?_ | (refine ext_set ?_ (by first | (simp; done) | (simp; omega)) _))
  · go_ret
    refine ⟨by simp [Pl.ok, *]; omega, ?_⟩
    repeat (first | exact ext_refl _ | (refine ext_trans ?_ (by assumption)) | refine ext_alloc ?_ _ | refine ext_drew ?_ | (refine ext_set ?_ (by first | (simp; done) | (simp; omega)) _))
  · go_ret
    refine ⟨by simp [Pl.ok, *], ?_⟩
    repeat (first | exact ext_refl _ | (refine ext_trans ?_ (by assumption)) | refine ext_alloc ?_ _ | refine ext_drew ?_ | (refine ext_set ?_ (by first | (simp; done) | (simp; omega)) _))
set_option maxHeartbeats 400000 in
theorem spec_l1In (n low high : Int) (w : World) :
    Calls Try.prog 67 #[.int .i64 n, .int .i64 low, .int .i64 high] w fun e w' => e = .returned (.bool (inB n low high)) ∧ w = w' := by
  go_enter Try.func67, Try.ntmps67
  go_wp2
  all_goals (go_ret; refine ⟨?_, rfl⟩; simp [inB, *])
  all_goals omega
def Bd.okW (pts : Int) (b : Bd) : Bool := inB b.f 0 (wrap64 (pts-1)) && (inB b.t 0 (wrap64 (pts-1)) && inB b.m (-99) 99)
theorem okW_eq (pts : Int) (b : Bd) (h : inB pts 1 6 = true) : b.okW pts = b.ok pts := by
  have := (inB_iff _ _ _).1 h
  have e : wrap64 (pts - 1) = pts - 1 := IntWalk.wrap64_in _ (by omega)
  simp [Bd.okW, Bd.ok, e]
theorem not_false_ {b : Bool} (h : (!b) = false) : b = true := by simpa using h
theorem not_true {b : Bool} (h : (!b) = true) : b = false := by simpa using h
theorem pl_bad (p : Pl) (j : Nat) (b : Bd) (hb : p.bs[j]? = some b) (h : b.okW p.pts = false) : p.ok = false := by
  unfold Pl.ok
  cases hp : inB p.pts 1 6 with
  | false => rfl
  | true =>
    rw [okW_eq _ _ hp] at h
    have : p.bs.all (Bd.ok p.pts) = false := by
      rw [List.all_eq_false]
      exact ⟨b, List.mem_of_getElem? hb, by simp [h]⟩
    simp [this]
theorem take_all_next {α : Type} (l : List α) (j : Nat) (b : α) (p : α → Bool) (hb : l[j]? = some b) (h : (l.take j).all p = true) (hp : p b = true) : (l.take (j+1)).all p = true := by
  rw [List.take_add_one, hb]
  simp at *
  exact ⟨h, hp⟩
set_option maxHeartbeats 1000000 in
theorem spec_PlanOk (p : Pl) (bs : Value) (w : World) (hv : Bds w 0 bs p.bs) :
    Calls Try.prog 91 #[.agg #[.int .i64 p.pts, bs]] w fun e w' => e = .returned (.bool p.ok) ∧ Below w.heap.size w w' := by
  obtain ⟨a, cap, rfl, hn, hc, hcell⟩ := hv.open
  clear hv
  go_enter Try.func91, Try.ntmps91
  go_wp2_with fail
  go_loopg [3, 4] p.bs.length (fun n k b wr => ∃ j : Nat, j ≤ p.bs.length ∧ n = p.bs.length - j ∧ k = .int .i64 j ∧
    Below (w.alloc (.cells #[.int .i64 p.pts, .slice a p.bs.length cap] 25)).heap.size (w.alloc (.cells #[.int .i64 p.pts, .slice a p.bs.length cap] 25)) wr ∧
    Hid (inB p.pts 1 6 = true → (p.bs.take j).all (Bd.ok p.pts) = true))
  case atStart => exact ⟨0, by omega, by omega, rfl, ext_refl _, fun _ => by simp⟩
  case round =>
    obtain ⟨j, hj, hgk, rfl, hb, Hf⟩ := hrel
    obtain ⟨hc_, hf_, hz_⟩ := bcell hb
    have Hk := Lib.hid hgk
    clear hgk
    simp only [World.size_alloc] at hz_
    have hs0 : w.heap.size < wr.heap.size := by omega
    by_cases hlt : j < p.bs.length
    · obtain ⟨g, rfl, hg0, hg, _, hc2⟩ := hcell j hlt
      obtain ⟨c0, c1, c2⟩ := hc2 j hlt
      have hg1 : g < w.heap.size + 1 := by omega
      have Hj := Lib.hid (getD_of p.bs j Bd.z hlt)
      clear hc2 hcell
      generalize p.bs.getD j Bd.z = b at *
      go_wp2_with (go_at_call 67; refine (spec_l1In _ _ _ _).mono ?_; rintro e w' ⟨rfl, rfl⟩)
      · have hx : inB b.m (-99) 99 = false := not_true (by assumption)
        go_ret
        refine ⟨by rw [pl_bad p j b Hj.out (by simp [Bd.okW, *])]; rfl, ?_⟩
        repeat (first | exact ext_refl _ | (refine ext_trans ?_ (by assumption)) | refine ext_alloc ?_ _ | refine ext_drew ?_ | (refine ext_set ?_ (by first | (simp; done) | (simp; omega)) _))
      · have hx : inB b.m (-99) 99 = true := not_false_ (by assumption)
        go_roundg (p.bs.length - (j+1))
        case rel => exact ⟨j+1, by omega, rfl, by go_num, ext_alloc hb _, fun h => take_all_next _ _ b _ Hj.out (Hf.out h) (by rw [← okW_eq _ _ h]; simp [Bd.okW, *])⟩
        case measure => have := Hk.out; omega
      · go_ret
        refine ⟨by rw [pl_bad p j b Hj.out (by simp [Bd.okW, *])]; rfl, ?_⟩
        repeat (first | exact ext_refl _ | (refine ext_trans ?_ (by assumption)) | refine ext_alloc ?_ _ | refine ext_drew ?_ | (refine ext_set ?_ (by first | (simp; done) | (simp; omega)) _))
      · go_ret
        refine ⟨by rw [pl_bad p j b Hj.out (by simp [Bd.okW, *])]; rfl, ?_⟩
        repeat (first | exact ext_refl _ | (refine ext_trans ?_ (by assumption)) | refine ext_alloc ?_ _ | refine ext_drew ?_ | (refine ext_set ?_ (by first | (simp; done) | (simp; omega)) _))
    · have hjl : j = p.bs.length := by omega
      have Hjl := Lib.hid hjl
      clear hjl
      go_wp2_with (go_at_call 67; refine (spec_l1In _ _ _ _).mono ?_; rintro e w' ⟨rfl, rfl⟩)
      · have hp : inB p.pts 1 6 = true := by assumption
        have := Hf.out hp
        rw [Hjl.out, List.take_length] at this
        go_ret
        refine ⟨by simp [Pl.ok, *]; omega, ?_⟩
        repeat (first | exact ext_refl _ | (refine ext_trans ?_ (by assumption)) | refine ext_alloc ?_ _ | refine ext_drew ?_ | (refine ext_set ?_ (by first | (simp; done) | (simp; omega)) _))
      · go_ret
        refine ⟨by simp [Pl.ok, *], ?_⟩
        repeat (first | exact ext_refl _ | (refine ext_trans ?_ (by assumption)) | refine ext_alloc ?_ _ | refine ext_drew ?_ | (refine ext_set ?_ (by first | (simp; done) | (simp; omega)) _))
end Go.Proofs.Ytffcfambgcaikaa
