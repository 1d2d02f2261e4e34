/- The walks of HeardOk, lastTime and StateAfter of impl. Conditions: the bounds and the happenings can be read, at most two million. -/
import Derived.Test.YtffcfambgcaikaaBadS
import Derived.Test.YtffcfambgcaikaaSeen
namespace Go.Proofs.Ytffcfambgcaikaa
open Go.RowKit
set_option linter.unusedVariables false
set_option linter.unusedSimpArgs false
theorem impl_hasW (P0 m : Int) (bs : Value) (n : Int) (w : World) (hm1 : IntKind.i64.wrap (P0 - 1) = m) (hm2 : wrap64 (P0 - 1) = m) :
    Calls Try.prog 52 #[.agg #[.int .i64 P0, bs], .int .i64 n] w fun e w' => e = .returned (.bool (inB n 0 m)) ∧ Below w.heap.size w w' := by
  go_enter Try.func52, Try.ntmps52
  go_wp2_with (go_at_call 53; refine (impl_in _ _ _ _).mono ?_; rintro e w' ⟨rfl, rfl⟩)
  go_ret
  exact ⟨rfl, ext_alloc (ext_refl _) _⟩
def seenF (l : List Hp) (k : Nat) (x : Int) : Bool := decide (x = 0) || (List.range k).any fun i => decide ((hA l i).pt = x)
theorem seenF_iff {l : List Hp} {k : Nat} {x : Int} : seenF l k x = true ↔ x = 0 ∨ ∃ i, i < k ∧ (hA l i).pt = x := by
  simp [seenF, List.any_eq_true]
theorem seenF_zero (l : List Hp) : (fun y => if y = (0 : Int) then true else (fun _ => false) y) = seenF l 0 := by
  funext y
  by_cases h : y = 0 <;> simp [seenF, h]
theorem seenF_succ (l : List Hp) (k : Nat) : (fun y => if y = (hA l k).pt then true else seenF l k y) = seenF l (k+1) := by
  funext y
  by_cases h : y = (hA l k).pt
  · rw [if_pos h]
    exact (seenF_iff.2 (.inr ⟨k, by omega, h.symm⟩)).symm
  · rw [if_neg h]
    have : seenF l k y = true ↔ seenF l (k+1) y = true := by
      rw [seenF_iff, seenF_iff]
      constructor
      · rintro (h1 | ⟨i, hi, h1⟩)
        · exact .inl h1
        · exact .inr ⟨i, by omega, h1⟩
      · rintro (h1 | ⟨i, hi, h1⟩)
        · exact .inl h1
        · by_cases e : i = k
          · subst e; exact absurd h1.symm h
          · exact .inr ⟨i, by omega, h1⟩
    cases h1 : seenF l k y <;> cases h2 : seenF l (k+1) y
    · rfl
    · rw [this.2 h2] at h1; cases h1
    · rw [this.1 h1] at h2; cases h2
    · rfl
theorem wrap64_top (n : Int) : wrap64 n ≤ 9223372036854775807 := by unfold wrap64; omega
theorem hpOk_last {m : Int} {l : List Hp} {k : Nat} (hk : k < l.length) (h : ∀ i, i < k → hpOk m l i = true) : 0 ≤ lastT (l.take k) := by
  rw [last_take (by omega)]
  split
  · omega
  · have := h (k-1) (by omega)
    simp only [hpOk, Bool.and_eq_true, inB_iff] at this
    exact this.2.1.1
/-- what impl asks of one, and what is asked -/
theorem hpOk_iff {m : Int} {l : List Hp} {k : Nat} (hk : k < l.length) (h : ∀ i, i < k → hpOk m l i = true) : hpOk m l k = (inB (hA l k).pt 0 m && (!seenF l k (hA l k).pt && inB (hA l k).tm (lastT (l.take k)) 2000)) := by
  have h0 := hpOk_last hk h
  have hl := last_take (l := l) (k := k) (by omega)
  have key : hpOk m l k = true ↔ (inB (hA l k).pt 0 m && (!seenF l k (hA l k).pt && inB (hA l k).tm (lastT (l.take k)) 2000)) = true := by
    have hs : (!seenF l k (hA l k).pt) = true ↔ ¬ seenF l k (hA l k).pt = true := by cases seenF l k (hA l k).pt <;> simp
    rw [Bool.and_eq_true, Bool.and_eq_true, hs, seenF_iff]
    simp only [hpOk, Bool.and_eq_true, decide_eq_true_eq, List.all_eq_true, List.mem_range, inB_iff]
    constructor
    · rintro ⟨a, b, c, d⟩
      refine ⟨by omega, ?_, ?_, by omega⟩
      · rintro (h1 | ⟨i, hi, h1⟩)
        · omega
        · exact d i hi h1
      · rw [hl]
        split
        · omega
        · rcases c with c | c <;> omega
    · rintro ⟨a, b, c⟩
      refine ⟨?_, by omega, ?_, fun j hj e => b (.inr ⟨j, hj, e⟩)⟩
      · have : (hA l k).pt ≠ 0 := fun e => b (.inl e)
        omega
      · rw [hl] at c
        split at c
        · rename_i e; exact .inl e
        · exact .inr c.1
  cases h1 : hpOk m l k <;> cases h2 : (inB (hA l k).pt 0 m && (!seenF l k (hA l k).pt && inB (hA l k).tm (lastT (l.take k)) 2000))
  · rfl
  · rw [key.2 h2] at h1; cases h1
  · rw [key.1 h1] at h2; cases h2
  · rfl
set_option maxRecDepth 100000 in
set_option maxHeartbeats 8000000 in
theorem impl_HeardOk (p : Pl) (bs lv : Value) (l : List Hp) (w : World) (hv : Bds w 0 bs p.bs) (hh : Hps w 0 lv l) (hlen : l.length ≤ 2000000) :
    Calls Try.prog 15 #[.agg #[.int .i64 p.pts, bs], lv] w fun e w' => e = .returned (.bool (p.heard l)) ∧ Below w.heap.size w w' := by
  have V := Lib.hid hv
  have H := Lib.hid hh
  obtain ⟨a, c, rfl, hn, hc, -⟩ := hv.open
  obtain ⟨al, cl, rfl, hnl, hcl, -⟩ := hh.open
  obtain ⟨P0, hP0⟩ : ∃ P, Hid (P = p.pts) := ⟨_, rfl⟩
  obtain ⟨m, hm1⟩ : ∃ m, IntKind.i64.wrap (P0 - 1) = m := ⟨_, rfl⟩
  have hm2 : wrap64 (P0 - 1) = m := (IntWalk.i64_left _).symm.trans hm1
  have Hm : Hid (wrap64 (p.pts - 1) = m) := by rw [← hP0.out]; exact Lib.hid hm2
  have hmt : m ≤ 9223372036854775807 := by rw [← hm2]; exact wrap64_top _
  have Hm1 := Lib.hid hm1
  have Hm2 := Lib.hid hm2
  obtain ⟨N, hN⟩ : ∃ N, Hid (N = l.length) := ⟨_, rfl⟩
  rw [← hN.out] at hlen hnl
  clear hv hh hm1 hm2
  rw [← hP0.out, ← hN.out]
  have hmm := @run_makeMap Try.prog
  go_enter Try.func15, Try.ntmps15
  go_upto_region 2 with fail
  obtain ⟨W, hW, A0, hs, E⟩ := one_box w #[.int .i64 P0, .slice a p.bs.length c] 25
  rw [← hW.out]
  go_wp2_with (refine wpl_seenIns _ rfl _ _ _ rfl W.heap.size 0 (fun _ => false) rfl (SeenN.made W) (by omega) 0 true rfl (by omega) rfl ?_; intro w1 hs1 hg1)
  have S : Hid (SeenN w1 W.heap.size (0 + 1) (seenF l 0)) := by rw [← seenF_zero]; exact Lib.hid hs1
  have hb1 : Below W.heap.size W w1 := ext_grown (ext_alloc (ext_refl _) _) hg1 (fun q hq => by injection hq with hq; omega)
  clear hs1 hg1
  go_loopg [5, 13] N (fun z la kk wr => ∃ k : Nat, k ≤ N ∧ z = N - k ∧ kk = .int .i64 k ∧ la = .int .i64 (lastT (l.take k)) ∧ Hid (SeenN wr W.heap.size (k+1) (seenF l k)) ∧ Below W.heap.size W wr ∧ Hid (∀ i, i < k → hpOk m l i = true))
  case atStart => exact ⟨0, by omega, by omega, rfl, by rw [List.take_zero]; rfl, S, hb1, Lib.hid fun i hi => by omega⟩
  case round =>
    clear S hb1
    obtain ⟨k, hk, hgk, rfl, rfl, S, hb, Hall⟩ := hrel
    have Hk := Lib.hid hgk
    clear hgk
    obtain ⟨la, hla⟩ : ∃ x, Hid (x = lastT (l.take k)) := ⟨_, rfl⟩
    rw [← hla.out]
    have E1 := ext_trans E hb
    by_cases hlk : k < N
    · obtain ⟨g, ha, hg, cx, cy⟩ := (H.out.ext E1).atA (j := k) (by rw [← hN.out]; exact hlk)
      subst ha
      obtain ⟨x, hx⟩ : ∃ x, Hid (x = (hA l k).pt) := ⟨_, rfl⟩
      obtain ⟨y, hy⟩ : ∃ x, Hid (x = (hA l k).tm) := ⟨_, rfl⟩
      rw [← hx.out] at cx
      rw [← hy.out] at cy
      have hq := hb.size
      have hSl := S.out.lt
      have hokk : Hid (hpOk m l k = (inB x 0 m && (!seenF l k x && inB y la 2000))) := by rw [hx.out, hy.out, hla.out]; exact Lib.hid (hpOk_iff (by rw [← hN.out]; exact hlk) Hall.out)
      go_upto_region 6 with fail
      obtain ⟨w2, hw2, B0, hs2, E2⟩ := one_box wr #[.int .i64 x, .int .i64 y] 30
      rw [← hw2.out]
      have S := Lib.hid (S.out.ext E2)
      have hb := ext_trans hb E2
      have A1 := A0.ext hb
      clear cx cy
      obtain ⟨rc0, rz0⟩ := (A1).rules; have rl0 := (A1).lt
      obtain ⟨rc1, rz1⟩ := (B0).rules; have rl1 := (B0).lt
      go_wp2_with fail
      refine (impl_hasW P0 m _ x _ Hm1.out Hm2.out).mono ?_
      rintro e w3 ⟨rfl, hb3⟩
      have B0 := B0.ext hb3
      have S := Lib.hid (S.out.ext hb3)
      have hb := ext_trans hb hb3
      clear rc0 rz0 rl0 rc1 rz1 rl1 hb3
      obtain ⟨rc1, rz1⟩ := (B0).rules; have rl1 := (B0).lt
      cases h1 : inB x 0 m
      · have Hf : Hid (p.heard l = false) := Lib.hid (heard_no (by rw [← hN.out]; exact hlk) (by rw [Hm.out, hokk.out, h1]; rfl))
        clear h1
        go_wp2_with fail
        go_ret
        exact ⟨by rw [Hf.out]; rfl, ext_trans E hb⟩
      have hxr := (inB_iff _ _ _).1 h1
      have Hx1 := Lib.hid h1
      have hlook := S.out.look x (by omega)
      clear h1
      by_cases h2' : seenF l k x = true
      · have h2 := h2'
        clear h2'
        have Hf : Hid (p.heard l = false) := Lib.hid (heard_no (by rw [← hN.out]; exact hlk) (by rw [Hm.out, hokk.out, Hx1.out, h2]; rfl))
        rw [h2] at hlook
        clear h2
        go_wp2_with fail
        go_ret
        exact ⟨by rw [Hf.out]; rfl, ext_trans E hb⟩
      have h2 : seenF l k x = false := by simpa using h2'
      clear h2'
      rw [h2] at hlook
      have Hx2 := Lib.hid h2
      clear h2
      go_wp2_with fail
      refine (impl_in y la 2000 _).mono ?_
      rintro e w4 ⟨rfl, rfl⟩
      cases h3 : inB y la 2000
      · have Hf : Hid (p.heard l = false) := Lib.hid (heard_no (by rw [← hN.out]; exact hlk) (by rw [Hm.out, hokk.out, Hx1.out, Hx2.out, h3]; rfl))
        clear h3
        go_wp2_with fail
        go_ret
        exact ⟨by rw [Hf.out]; rfl, ext_trans E hb⟩
      have Hx3 : Hid (hpOk m l k = true) := by rw [hokk.out, Hx1.out, Hx2.out, h3]; exact Lib.hid rfl
      clear h3
      have hqb := hb.size
      go_wp2_with (at_mapUpdate; refine wpl_seenPut _ rfl _ _ _ rfl W.heap.size (k+1) (seenF l k) rfl S.out (by omega) x true rfl (by omega) rfl ?_; intro w5 hs5 hg5; clear rc1 rz1 rl1; have B5 := B0.grown hg5 (fun e => by injection e with e; omega); obtain ⟨rc5, rz5⟩ := B5.rules; have rl5 := B5.lt)
      have hs6 : SeenN w5 W.heap.size (k + 1 + 1) (seenF l (k+1)) := by rw [← seenF_succ, ← hx.out]; exact hs5
      go_roundg (N - (k+1))
      case rel =>
        refine ⟨k+1, by omega, rfl, by go_num, ?_, Lib.hid hs6, ext_grown hb hg5 (fun q hq => by injection hq with hq; omega), Lib.hid fun i hi => ?_⟩
        · rw [last_take (by rw [← hN.out]; omega), if_neg (by omega), hy.out]; rfl
        · by_cases e : i = k
          · subst e; exact Hx3.out
          · exact Hall.out i (by omega)
      case measure => have := Hk.out; omega
    · have hkN : k = N := by omega
      have Hh : Hid (p.heard l = p.fits) := Lib.hid (heard_all fun i hi => by rw [Hm.out]; exact Hall.out i (by rw [hkN, hN.out]; exact hi))
      have A1 := A0.ext hb
      obtain ⟨rc0, rz0⟩ := (A1).rules; have rl0 := (A1).lt
      go_wp2_with fail
      refine ((show Calls Try.prog 54 #[.agg #[.int .i64 P0, .slice a p.bs.length c]] wr (fun e w' => e = .returned (.bool p.fits) ∧ Below wr.heap.size wr w') by rw [hP0.out]; exact impl_FitsOk p _ _ (V.out.ext E1))).mono ?_
      rintro e w9 ⟨rfl, hb9⟩
      go_wp2_with fail
      go_ret
      exact ⟨by rw [Hh.out]; rfl, ext_trans E1 hb9⟩
end Go.Proofs.Ytffcfambgcaikaa
