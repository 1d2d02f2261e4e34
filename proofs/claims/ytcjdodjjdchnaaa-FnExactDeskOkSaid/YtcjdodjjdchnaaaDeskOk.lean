/- The walks of toDesk, eqDesk and DeskOk of both, with plans of before. Conditions: at most 1048576 plans and bounds each. -/
import Derived.Test.YtcjdodjjdchnaaaPls
import Derived.Test.YtcjdodjjdchnaaaDeskLaw
namespace Go.Proofs.Ytcjdodjjdchnaaa
open Go.RowKit
set_option linter.unusedVariables false
set_option linter.unusedSimpArgs false
def RetDk (w : World) (p : Pl) (ps : List LPl) : Ending → World → Prop := fun e w' => ∃ bs v l, e = .returned (.agg #[.int .i64 p.pts, bs, v]) ∧ Bds w' w.heap.size bs p.bs ∧ Pls w' w.heap.size v l ∧ Hid (l.length = ps.length) ∧ Hid (∀ i, i < ps.length → (l.getD i Pv.z).p = ⟨(ps.getD i LPl.z).pts, (ps.getD i LPl.z).l⟩) ∧ Below w.heap.size w w'
theorem Pls.low {w : World} {base : Nat} {v : Value} {l : List Pv} (h : Pls w base v l) {p : Addr} (hp : p.block < base) (u : Value) : Pls (w.setCell p u) base v l := ⟨own_low h.o hp u, fun i hi => (h.r i hi).low hp u⟩
set_option maxHeartbeats 4000000 in
theorem laws_toDesk (pts : Int) (a : Option Addr) (n cap : Nat) (l : List Bd) (a' : Option Addr) (n' cap' : Nat) (L : List LPl) (w : World) (h : ABds w a n cap l) (hn : n ≤ 1048576) (h' : APls w a' n' cap' L) (hsm : smallP L n') :
    Calls Try.prog 43 #[.agg #[.int .i64 pts, .slice a n cap, .slice a' n' cap']] w (RetDk w ⟨pts, l⟩ L) := by
  have H := Lib.hid h; have H' := Lib.hid h'
  clear h h'
  go_enter Try.func43, Try.ntmps43
  go_wp2_with fail
  obtain ⟨W, hW, A0, A1, A2, hs, E⟩ := three_boxes w #[.int .i64 pts, .slice a n cap, .slice a' n' cap'] #[.int .i64 0, .slice none 0 0, .slice none 0 0] #[.int .i64 0, .slice none 0 0, .slice none 0 0] 59 34 34
  rw [← hW.out]
  obtain ⟨rc0, rz0⟩ := (A0).rules; have rl0 := (A0).lt
  obtain ⟨rc1, rz1⟩ := (A1).rules; have rl1 := (A1).lt
  obtain ⟨rc2, rz2⟩ := (A2).rules; have rl2 := (A2).lt
  refine (laws_toPlan pts a n cap l _ (H.out.ext E) hn).mono ?_
  rintro e w1 ⟨vT, rfl, hT, hb1⟩
  obtain ⟨aT, cT, rfl, -⟩ := hT.open
  have HT := Lib.hid hT
  have A0 := A0.ext hb1; have A1 := A1.ext hb1; have A2 := A2.ext hb1
  have E := ext_trans E hb1
  have q1 := hb1.size
  clear rc0 rz0 rl0 rc1 rz1 rl1 rc2 rz2 rl2 hT hb1
  obtain ⟨rc0, rz0⟩ := (A0).rules; have rl0 := (A0).lt
  obtain ⟨rc1, rz1⟩ := (A1).rules; have rl1 := (A1).lt
  obtain ⟨rc2, rz2⟩ := (A2).rules; have rl2 := (A2).lt
  go_wp2_with fail
  obtain ⟨D, hD⟩ : ∃ D, Hid (D = (w1.setCell ⟨w.heap.size + 1 + 1, 0, none⟩ (.int .i64 pts)).setCell ⟨w.heap.size + 1 + 1, 1, none⟩ (.slice aT l.length cT)) := ⟨_, rfl⟩
  have A0 := (A0.far (p := ⟨w.heap.size + 1 + 1, 0, none⟩) (by dsimp only; omega) (.int .i64 pts)).far (p := ⟨w.heap.size + 1 + 1, 1, none⟩) (by dsimp only; omega) (.slice aT l.length cT)
  rw [← hD.out] at A0
  have A1 := (A1.far (p := ⟨w.heap.size + 1 + 1, 0, none⟩) (by dsimp only; omega) (.int .i64 pts)).far (p := ⟨w.heap.size + 1 + 1, 1, none⟩) (by dsimp only; omega) (.slice aT l.length cT)
  rw [← hD.out] at A1
  have A2 := (A2.set 0 (.int .i64 pts)).set 1 (.slice aT l.length cT)
  have HT : Hid (Bds D W.heap.size (.slice aT l.length cT) l) := by rw [hD.out]; exact Lib.hid ((HT.out.low (by dsimp only; omega) _).low (by dsimp only; omega) _)
  have E : Below w.heap.size w D := by rw [hD.out]; exact ext_set (ext_set E (by simp; omega) _) (by simp; omega) _
  have qD : W.heap.size ≤ D.heap.size := by rw [hD.out]; simpa using q1
  rw [← hD.out] at A2
  rw [← hD.out]
  clear rc0 rz0 rl0 rc1 rz1 rl1 rc2 rz2 rl2
  obtain ⟨rc0, rz0⟩ := (A0).rules; have rl0 := (A0).lt
  obtain ⟨rc1, rz1⟩ := (A1).rules; have rl1 := (A1).lt
  obtain ⟨rc2, rz2⟩ := (A2).rules; have rl2 := (A2).lt
  go_wp2_with fail
  refine (laws_toPlanS a' n' cap' L _ (H'.out.ext E) hsm).mono ?_
  rintro e w2 ⟨vP, lP, rfl, hP, Hlen, Hq, hb2⟩
  obtain ⟨aP, cP, rfl, -⟩ := hP.open
  have HP := Lib.hid hP
  have HT := Lib.hid (HT.out.ext hb2)
  have A0 := A0.ext hb2; have A1 := A1.ext hb2; have A2 := A2.ext hb2
  have E := ext_trans E hb2
  have q2 := hb2.size
  clear rc0 rz0 rl0 rc1 rz1 rl1 rc2 rz2 rl2 hP hb2
  obtain ⟨rc0, rz0⟩ := (A0).rules; have rl0 := (A0).lt
  obtain ⟨rc1, rz1⟩ := (A1).rules; have rl1 := (A1).lt
  obtain ⟨rc2, rz2⟩ := (A2).rules; have rl2 := (A2).lt
  go_wp2_with fail
  refine bodyPost_ret (v := .agg #[.int .i64 pts, .slice aT l.length cT, .slice aP lP.length cP]) (by simp [results, Try.results43, go_sem, *]) rfl ?_
  refine ⟨_, _, lP, rfl, ?_, ?_, Hlen, Hq, ?_⟩
  · exact ((((HT.out.low (by dsimp only; omega) _).low (by dsimp only; omega) _).low (by dsimp only; omega) _).low (by dsimp only; omega) _).base (by omega)
  · exact ((((HP.out.low (by dsimp only; omega) _).low (by dsimp only; omega) _).low (by dsimp only; omega) _).low (by dsimp only; omega) _).base (by omega)
  · exact ext_set (ext_set (ext_set (ext_set E (by simp; omega) _) (by simp) _) (by simp) _) (by simp) _
set_option maxHeartbeats 4000000 in
theorem laws_eqPlanS (v v' : Value) (l l' : List Pv) (w : World) (hv : Pls w 0 v l) (hv' : Pls w 0 v' l') (hlen : l.length = l'.length) (he : ∀ i, i < l.length → (l.getD i Pv.z).p = (l'.getD i Pv.z).p) :
    Calls Try.prog 80 #[v, v'] w fun e w' => e = .returned (.bool true) ∧ Below w.heap.size w w' := by
  have Hv := Lib.hid hv; have Hv' := Lib.hid hv'; have He := Lib.hid he
  obtain ⟨a, cap, rfl, hn, hc⟩ := hv.open
  obtain ⟨a', cap', rfl, hn', hc'⟩ := hv'.open
  obtain ⟨n, hnn⟩ : ∃ n, Hid (n = l.length) := ⟨_, rfl⟩
  rw [← hlen, ← hnn.out] at hn'
  rw [← hlen, ← hnn.out] at Hv' 
  rw [← hnn.out] at hn Hv
  rw [← hnn.out, ← hlen, ← hnn.out]
  have Hlen := Lib.hid hlen
  clear hv hv' he hlen
  go_enter Try.func80, Try.ntmps80
  go_wp2_with fail
  go_loopg [5] n (fun m k wr => ∃ j : Nat, j ≤ n ∧ m = n - j ∧ k = .int .i64 j ∧ Below w.heap.size w wr)
  case atStart => exact ⟨0, by omega, by omega, rfl, ext_refl _⟩
  case round =>
    obtain ⟨j, hj, hgk, rfl, hbel⟩ := hrel
    have Hk := Lib.hid hgk
    clear hgk
    by_cases hlt : j < n
    · have HV := Lib.hid (Hv.out.ext hbel); have HV' := Lib.hid (Hv'.out.ext hbel)
      obtain ⟨g, ai, ci, rfl, -, gl, gf, c0, c1, r1⟩ := HV.out.at_ (j := j) (by have := hnn.out; omega)
      obtain ⟨g', ai', ci', rfl, -, gl', gf', c0', c1', r1'⟩ := HV'.out.at_ (j := j) (by have := hnn.out; have := Hlen.out; omega)
      rw [← He.out j (by have := hnn.out; omega)] at c0' c1' r1'
      have R1 := Lib.hid r1; have R1' := Lib.hid r1'
      clear r1 r1'
      generalize (l.getD j Pv.z).p = q at *
      go_wp2_with fail
      go_region_held3 (fun w' => w'.cell? ⟨g, j * 2, none⟩ = some (.int .i64 q.pts) ∧ w'.cell? ⟨g, j * 2 + 1, none⟩ = some (.slice ai q.bs.length ci) ∧ w'.cell? ⟨g', j * 2, none⟩ = some (.int .i64 q.pts) ∧ w'.cell? ⟨g', j * 2 + 1, none⟩ = some (.slice ai' q.bs.length ci'))
        (first | exact ⟨c0, c1, c0', c1'⟩ | exact ⟨(hb2.cell (by exact gl)).trans c0, (hb2.cell (by exact gl)).trans c1, (hb2.cell (by exact gl')).trans c0', (hb2.cell (by exact gl')).trans c1'⟩)
        (first | (go_at_call 34
                  refine (laws_eqPlan q q _ _ _ (R1.out.ext (ext_drew (ext_refl wr))) (R1'.out.ext (ext_drew (ext_refl wr)))).mono ?_
                  rintro e w2 ⟨rfl, hb2⟩
                  rw [decide_eq_true rfl]
                  have hb2 := ext_trans (ext_drew (ext_refl wr)) hb2))
      go_wp2_with fail
      go_roundg (n - (j+1))
      case rel => exact ⟨j+1, by omega, rfl, by go_num, ext_trans hbel hb2⟩
      case measure => have := Hk.out; omega
    · go_wp2_with fail
      go_ret
      exact ⟨rfl, hbel⟩
set_option maxHeartbeats 4000000 in
theorem laws_eqDesk (p : Pl) (b b' v v' : Value) (l l' : List Pv) (w : World) (hb : Bds w 0 b p.bs) (hb' : Bds w 0 b' p.bs) (hv : Pls w 0 v l) (hv' : Pls w 0 v' l') (hlen : l.length = l'.length) (he : ∀ i, i < l.length → (l.getD i Pv.z).p = (l'.getD i Pv.z).p) :
    Calls Try.prog 44 #[.agg #[.int .i64 p.pts, b, v], .agg #[.int .i64 p.pts, b', v']] w fun e w' => e = .returned (.bool true) ∧ Below w.heap.size w w' := by
  have Hv := Lib.hid hv; have Hv' := Lib.hid hv'; have He := Lib.hid he; have Hlen := Lib.hid hlen; have Hb := Lib.hid hb; have Hb' := Lib.hid hb'
  obtain ⟨a, cap, rfl, hn, hc⟩ := hv.open
  obtain ⟨a', cap', rfl, hn', hc'⟩ := hv'.open
  obtain ⟨ab, cb, rfl, -⟩ := hb.open
  obtain ⟨ab', cb', rfl, -⟩ := hb'.open
  clear hv hv' he hlen hb hb'
  go_enter Try.func44, Try.ntmps44
  go_wp2_with fail
  obtain ⟨W, hW, A0, A1, hs, E⟩ := two_boxes w #[.int .i64 p.pts, .slice ab p.bs.length cb, .slice a l.length cap] #[.int .i64 p.pts, .slice ab' p.bs.length cb', .slice a' l'.length cap'] 34 34
  rw [← hW.out]
  refine (laws_eqPlan p p _ _ _ (Hb.out.ext E) (Hb'.out.ext E)).mono ?_
  rintro e w1 ⟨rfl, hb1⟩
  rw [decide_eq_true rfl]
  have A0 := A0.ext hb1
  have A1 := A1.ext hb1
  have E := ext_trans E hb1
  obtain ⟨rc0, rz0⟩ := (A0).rules; have rl0 := (A0).lt
  obtain ⟨rc1, rz1⟩ := (A1).rules; have rl1 := (A1).lt
  go_wp2_with fail
  refine (laws_eqPlanS _ _ l l' _ (Hv.out.ext E) (Hv'.out.ext E) Hlen.out He.out).mono ?_
  rintro e w2 ⟨rfl, hb2⟩
  go_wp2_with fail
  go_ret
  exact ⟨rfl, ext_trans E hb2⟩
def pvOk (l : List Pv) : Bool := l.all fun x => x.p.ok
theorem pv_bad (l : List Pv) (j : Nat) (h : j < l.length) (hb : (l.getD j Pv.z).p.ok = false) : pvOk l = false := by
  unfold pvOk
  rw [List.all_eq_false]
  refine ⟨l.getD j Pv.z, ?_, by rw [hb]; exact Bool.false_ne_true⟩
  rw [List.getD_eq_getElem?_getD, List.getElem?_eq_getElem h]
  exact List.getElem_mem h
theorem pv_good (l : List Pv) (h : ∀ i, i < l.length → (l.getD i Pv.z).p.ok = true) : pvOk l = true := by
  unfold pvOk
  rw [List.all_eq_true]
  intro x hx
  obtain ⟨i, hi, rfl⟩ := List.getElem_of_mem hx
  have := h i hi
  rwa [List.getD_eq_getElem?_getD, List.getElem?_eq_getElem hi] at this
def dkOk (p : Pl) (l : List Pv) : Bool := pvOk l && (p.ok && decide (l.length ≤ 8))
set_option maxHeartbeats 4000000 in
theorem impl_DeskOk (p : Pl) (b v : Value) (l : List Pv) (w : World) (hb : Bds w 0 b p.bs) (hv : Pls w 0 v l) (hlen : l.length ≤ 1048576) :
    Calls Try.prog 27 #[.agg #[.int .i64 p.pts, b, v]] w fun e w' => e = .returned (.bool (dkOk p l)) ∧ Below w.heap.size w w' := by
  have Hv := Lib.hid hv; have Hb := Lib.hid hb
  obtain ⟨a, cap, rfl, hn, hc⟩ := hv.open
  obtain ⟨ab, cb, rfl, -⟩ := hb.open
  clear hv hb
  go_enter Try.func27, Try.ntmps27
  go_wp2_with fail
  obtain ⟨W, hW, A0, hs, E⟩ := one_box w #[.int .i64 p.pts, .slice ab p.bs.length cb, .slice a l.length cap] 34
  rw [← hW.out]
  obtain ⟨rc0, rz0⟩ := (A0).rules; have rl0 := (A0).lt
  go_wp2_with fail
  go_loopg [8] l.length (fun m k wr => ∃ j : Nat, j ≤ l.length ∧ m = l.length - j ∧ k = .int .i64 j ∧ Hid (∀ i, i < j → (l.getD i Pv.z).p.ok = true) ∧ Below W.heap.size W wr)
  case atStart => exact ⟨0, by omega, by omega, rfl, fun i hi => by omega, ext_refl _⟩
  case round =>
    obtain ⟨j, hj, hgk, rfl, Hok, hbel⟩ := hrel
    have Hk := Lib.hid hgk
    clear hgk rc0 rz0 rl0
    have A0 := A0.ext hbel
    have E := ext_trans E hbel
    by_cases hlt : j < l.length
    · have HV := Lib.hid (Hv.out.ext E)
      obtain ⟨g, ai, ci, rfl, -, gl, gf, c0, c1, r1⟩ := HV.out.at_ (j := j) hlt
      have R1 := Lib.hid r1
      obtain ⟨q, hq⟩ : ∃ q : Pl, Hid (q = (l.getD j Pv.z).p) := ⟨_, rfl⟩
      rw [← hq.out] at c0 c1 R1
      clear r1
      go_wp2_with fail
      obtain ⟨W2, hW2, B0, hs2, E2⟩ := one_box wr #[.int .i64 q.pts, .slice ai q.bs.length ci] 25
      rw [← hW2.out]
      obtain ⟨rc1, rz1⟩ := (B0).rules; have rl1 := (B0).lt
      go_wp2_with fail
      refine (impl_PlanOk q _ _ (R1.out.ext E2)).mono ?_
      rintro e w3 ⟨rfl, hb3⟩
      have E3 := ext_trans E2 hb3
      cases hok : q.ok
      · go_wp2_with fail
        go_ret
        exact ⟨by rw [dkOk, pv_bad l j hlt (by rw [← hq.out, hok])]; rfl, ext_trans E E3⟩
      · go_wp2_with fail
        go_roundg (l.length - (j+1))
        case rel =>
          refine ⟨j+1, by omega, rfl, by go_num, fun i hi => ?_, ext_trans hbel E3⟩
          by_cases hij : i = j
          · rw [hij, ← hq.out, hok]
          · exact Hok.out i (by omega)
        case measure => have := Hk.out; omega
    · have hjl : j = l.length := by omega
      have hpv := pv_good l (fun i hi => Hok.out i (by omega))
      have HPV := Lib.hid hpv
      clear hpv hjl
      obtain ⟨rc0, rz0⟩ := (A0).rules; have rl0 := (A0).lt
      go_wp2_with fail
      refine (impl_PlanOk p _ _ (Hb.out.ext E)).mono ?_
      rintro e w1 ⟨rfl, hb1⟩
      have A0 := A0.ext hb1
      clear rc0 rz0 rl0
      obtain ⟨rc1, rz1⟩ := (A0).rules; have rl1 := (A0).lt
      cases hok : p.ok
      · go_wp2_with fail
        go_ret
        exact ⟨by rw [dkOk, HPV.out, hok]; rfl, ext_trans E hb1⟩
      · by_cases h8 : l.length ≤ 8
        · go_wp2_with fail
          go_ret
          exact ⟨by rw [dkOk, HPV.out, hok]; simp; omega, ext_trans E hb1⟩
        · go_wp2_with fail
          go_ret
          exact ⟨by rw [dkOk, HPV.out, hok]; simp; omega, ext_trans E hb1⟩
set_option maxHeartbeats 4000000 in
theorem spec_DeskOk (p : Pl) (b v : Value) (l : List Pv) (w : World) (hb : Bds w 0 b p.bs) (hv : Pls w 0 v l) (hlen : l.length ≤ 1048576) :
    Calls Try.prog 42 #[.agg #[.int .i64 p.pts, b, v]] w fun e w' => e = .returned (.bool (dkOk p l)) ∧ Below w.heap.size w w' := by
  have Hv := Lib.hid hv; have Hb := Lib.hid hb
  obtain ⟨a, cap, rfl, hn, hc⟩ := hv.open
  obtain ⟨ab, cb, rfl, -⟩ := hb.open
  clear hv hb
  go_enter Try.func42, Try.ntmps42
  go_wp2_with fail
  obtain ⟨W, hW, A0, hs, E⟩ := one_box w #[.int .i64 p.pts, .slice ab p.bs.length cb, .slice a l.length cap] 34
  rw [← hW.out]
  go_loopg [3] l.length (fun m k wr => ∃ j : Nat, j ≤ l.length ∧ m = l.length - j ∧ k = .int .i64 j ∧ Hid (∀ i, i < j → (l.getD i Pv.z).p.ok = true) ∧ Below W.heap.size W wr)
  case atStart => exact ⟨0, by omega, by omega, rfl, fun i hi => by omega, ext_refl _⟩
  case round =>
    obtain ⟨j, hj, hgk, rfl, Hok, hbel⟩ := hrel
    have Hk := Lib.hid hgk
    clear hgk
    have A0 := A0.ext hbel
    have E := ext_trans E hbel
    obtain ⟨rc0, rz0⟩ := (A0).rules; have rl0 := (A0).lt
    by_cases hlt : j < l.length
    · have HV := Lib.hid (Hv.out.ext E)
      obtain ⟨g, ai, ci, rfl, -, gl, gf, c0, c1, r1⟩ := HV.out.at_ (j := j) hlt
      have R1 := Lib.hid r1
      obtain ⟨q, hq⟩ : ∃ q : Pl, Hid (q = (l.getD j Pv.z).p) := ⟨_, rfl⟩
      rw [← hq.out] at c0 c1 R1
      clear r1
      go_wp2_with fail
      refine (spec_PlanOk q _ _ R1.out).mono ?_
      rintro e w3 ⟨rfl, hb3⟩
      cases hok : q.ok
      · go_wp2_with fail
        go_ret
        exact ⟨by rw [dkOk, pv_bad l j hlt (by rw [← hq.out, hok])]; rfl, ext_trans E hb3⟩
      · go_wp2_with fail
        go_roundg (l.length - (j+1))
        case rel =>
          refine ⟨j+1, by omega, rfl, by go_num, fun i hi => ?_, ext_trans hbel hb3⟩
          by_cases hij : i = j
          · rw [hij, ← hq.out, hok]
          · exact Hok.out i (by omega)
        case measure => have := Hk.out; omega
    · have hjl : j = l.length := by omega
      have hpv := pv_good l (fun i hi => Hok.out i (by omega))
      have HPV := Lib.hid hpv
      clear hpv hjl
      go_wp2_with fail
      refine (spec_PlanOk p _ _ (Hb.out.ext E)).mono ?_
      rintro e w1 ⟨rfl, hb1⟩
      have A0 := A0.ext hb1
      clear rc0 rz0 rl0
      obtain ⟨rc1, rz1⟩ := (A0).rules; have rl1 := (A0).lt
      cases hok : p.ok
      · go_wp2_with fail
        go_ret
        exact ⟨by rw [dkOk, HPV.out, hok]; rfl, ext_trans E hb1⟩
      · by_cases h8 : l.length ≤ 8
        · go_wp2_with fail
          go_ret
          exact ⟨by rw [dkOk, HPV.out, hok]; simp; omega, ext_trans E hb1⟩
        · go_wp2_with fail
          go_ret
          exact ⟨by rw [dkOk, HPV.out, hok]; simp; omega, ext_trans E hb1⟩
end Go.Proofs.Ytcjdodjjdchnaaa
