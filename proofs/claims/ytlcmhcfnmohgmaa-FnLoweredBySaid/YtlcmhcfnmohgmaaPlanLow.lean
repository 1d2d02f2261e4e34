/- The walks of impl.LoweredBy and spec.LoweredBy: both return 'Pl.lowered', and whether it is a plan. Conditions: the bounds can be read, at most two million. -/
import Derived.Test.YtlcmhcfnmohgmaaPlanTurn
namespace Go.Proofs.Ytlcmhcfnmohgmaa
open Go.RowKit
set_option linter.unusedVariables false
set_option linter.unusedSimpArgs false
def Bd.lower (k : Int) (b : Bd) : Bd := ⟨b.f, b.t, b.m - k⟩
def Bd.lowerW (k : Int) (b : Bd) : Bd := ⟨b.f, b.t, IntKind.i64.wrap (b.m - k)⟩
def Pl.low (p : Pl) (k : Int) : Pl := ⟨p.pts, p.bs.map (Bd.lower k)⟩
def Pl.lowOk (p : Pl) (k : Int) : Bool := p.ok && (inB k 0 99 && (p.low k).ok)
def Pl.lowered (p : Pl) (k : Int) : Pl := if p.lowOk k then p.low k else Pl.zero
theorem lowered_no {p : Pl} {k : Int} (h : p.lowOk k = false) : p.lowered k = Pl.zero := by simp [Pl.lowered, h]
theorem ok_bound {p : Pl} (h : p.ok = true) {j : Nat} {b : Bd} (hb : p.bs[j]? = some b) : inB b.f 0 (p.pts-1) = true ∧ inB b.t 0 (p.pts-1) = true ∧ -99 ≤ b.m ∧ b.m ≤ 99 := by
  simp only [Pl.ok, Bool.and_eq_true, List.all_eq_true] at h
  have := h.2.2 b (List.mem_of_getElem? hb)
  simp only [Bd.ok, Bool.and_eq_true] at this
  exact ⟨this.1, this.2.1, (inB_iff _ _ _).1 this.2.2⟩
theorem ok_pts {p : Pl} (h : p.ok = true) : 1 ≤ p.pts ∧ p.pts ≤ 6 := by
  simp only [Pl.ok, Bool.and_eq_true] at h
  exact (inB_iff _ _ _).1 h.1
theorem ok_len {p : Pl} (h : p.ok = true) : p.bs.length ≤ 16 := by
  simp only [Pl.ok, Bool.and_eq_true, decide_eq_true_eq] at h
  exact h.2.1
set_option maxRecDepth 100000 in
set_option maxHeartbeats 2000000 in
theorem impl_LoweredBy (p : Pl) (k : Int) (bs : Value) (w : World) (hv : Bds w 0 bs p.bs) (hlen : p.bs.length ≤ 2000000) :
    Calls Try.prog 19 #[.agg #[.int .i64 p.pts, bs], .int .i64 k] w (RetPlanB w (p.lowered k) (p.lowOk k)) := by
  have Hv := Lib.hid hv
  obtain ⟨a, cap, rfl, hn, hc, -⟩ := hv.open
  clear hv
  by_cases hok : p.ok = true
  · by_cases hk : inB k 0 99 = true
    · have hkk := (inB_iff _ _ _).1 hk
      go_enter Try.func19, Try.ntmps19
      go_wp2_with fail
      obtain ⟨W, hW, B0, B1, hs, HB⟩ := two_boxes w #[Value.int IntKind.i64 p.pts, Value.slice a p.bs.length cap] #[.int .i64 0, .slice none 0 0] 25 25
      rw [← hW.out]
      refine (impl_PlanOk p _ _ (Hv.out.ext HB)).mono ?_
      rintro e w1 ⟨rfl, hb1⟩
      have B0 := B0.ext hb1
      have B1 := B1.ext hb1
      rw [hok]
      obtain ⟨rc0, rz0⟩ := (B0).rules; have rl0 := (B0).lt
      go_wp2_with (go_at_call 51; refine (impl_in _ _ _ _).mono ?_; rintro e w' ⟨rfl, rfl⟩; rw [hk])
      refine (impl_clone p _ _ (Hv.out.ext (ext_trans HB hb1)) hlen).mono ?_
      rintro e w2 ⟨v2, rfl, hv2, hb2⟩
      obtain ⟨a2, cap2, rfl, -⟩ := hv2.open
      have Hv2 := Lib.hid hv2
      have B1 := B1.ext hb2
      clear hv2 rc0 rz0 rl0
      go_wp2_with fail
      have B2 := Box.new w2 25 #[.int .i64 p.pts, .slice a2 p.bs.length cap2]
      have hz1 := hb1.size
      have hz2 := hb2.size
      have HA : Hid (∀ g, a2 = some ⟨g, 0, none⟩ → g < w2.heap.size) := fun g h => by subst h; exact (Hv2.out.lt g rfl).2
      go_loopg [7, 22] p.bs.length (fun n i kk wr => ∃ j : Nat, j ≤ p.bs.length ∧ n = p.bs.length - j ∧ kk = .int .i64 j ∧
        Bds wr w1.heap.size (.slice a2 p.bs.length cap2) ((p.bs.take j).map (Bd.lower k) ++ p.bs.drop j) ∧ Box wr w2.heap.size 25 #[.int .i64 p.pts, .slice a2 p.bs.length cap2] ∧ Box wr (w.heap.size + 1) 25 #[.int .i64 0, .slice none 0 0] ∧
        Below w.heap.size w wr)
      case atStart => exact ⟨0, by omega, by omega, rfl, by simpa using Hv2.out.alloc _, B2, B1.alloc _, ext_alloc (ext_trans (ext_trans HB hb1) hb2) _⟩
      case round =>
        obtain ⟨j, hj, hgk, rfl, hbd, hB2, hB1, hbel⟩ := hrel
        obtain ⟨rc2, rz2⟩ := (hB2).rules; have rl2 := (hB2).lt
        have l1 := hB1.lt
        have Hk := Lib.hid hgk; have Hbd := Lib.hid hbd
        clear hgk hbd
        by_cases hlt : j < p.bs.length
        · have Hl2 := Lib.hid (mid_length p.bs (Bd.lower k) j hj)
          obtain ⟨g, rfl, hg0, hg, hfz, k0, k1, k2⟩ := Hbd.out.at_ (j := j) (by have := Hl2.out; omega)
          rw [mid_getD _ _ _ _ hlt] at k0 k1 k2
          have Hb := Lib.hid (mid_set p.bs (Bd.lower k) j Bd.z hlt)
          have Hm := Lib.hid (mid_getD p.bs (Bd.lower k) j Bd.z hlt)
          have hbb := (ok_bound hok (getD_of p.bs j Bd.z hlt)).2.2
          obtain ⟨hb5, hb6⟩ := hbb
          generalize p.bs.getD j Bd.z = b at *
          have hg2 := HA.out g rfl
          go_wp2_with fail
          go_roundg (p.bs.length - (j+1))
          case rel =>
            refine ⟨j+1, by omega, rfl, by go_num, ?_, hB2.far (by simp; omega) _, hB1.far (by simp; omega) _, ext_set hbel (by simp; omega) _⟩
            have hs := Hbd.out.setM (j := j) (by have := Hl2.out; omega) (b.m - k)
            rw [Hm.out] at hs
            rw [← Hb.out]
            exact hs
          case measure => have := Hk.out; omega
        · have hjl : j = p.bs.length := by omega
          subst hjl
          have hb := Hbd.out
          rw [List.take_length, List.drop_length, List.append_nil] at hb
          have e : p.bs.length = (p.low k).bs.length := by simp [Pl.low]
          have Hb := Lib.hid hb; have He := Lib.hid e
          clear hb e
          go_wp2_with fail
          refine (impl_told (p.low k) _ _ (own_base Hb.out (Nat.zero_le _)) (by have := He.out; omega)).mono ?_
          rintro e w3 ⟨v3, rfl, hv3, hb3⟩
          obtain ⟨a3, cap3, rfl, -⟩ := hv3.open
          have Hv3 := Lib.hid hv3
          have hB1 := hB1.ext hb3
          have hz3 := hb3.size
          obtain ⟨rc1, rz1⟩ := (hB1).rules; have rl1 := (hB1).lt
          clear hv3
          have hfin : p.lowered k = (p.low k).told ∧ p.lowOk k = (p.low k).ok := by
            simp [Pl.lowered, Pl.lowOk, Pl.told, hok, hk]
          obtain ⟨hf1, hf2⟩ := hfin
          have Hf1 := Lib.hid hf1; have Hf2 := Lib.hid hf2
          clear hf1 hf2
          generalize (p.low k).told = tp at *
          generalize (p.low k).ok = tb at *
          go_wp2_with fail
          refine bodyPost_ret (v := .tuple #[.agg #[.int .i64 tp.pts, .slice a3 tp.bs.length cap3], .bool tb]) (by simp [results, Try.results19, go_sem, *]) rfl ?_
          rw [Hf1.out, Hf2.out]
          exact ⟨_, rfl, own_base (own_low (own_low Hv3.out (by simp; omega) _) (by simp; omega) _) (by omega), ext_set (ext_set (ext_trans hbel hb3) (by simp) _) (by simp) _⟩
    · simp only [Bool.not_eq_true] at hk
      have hno : p.lowOk k = false := by simp [Pl.lowOk, hk]
      have Hno := Lib.hid hno
      clear hno
      go_enter Try.func19, Try.ntmps19
      go_wp2_with fail
      obtain ⟨W, hW, B0, B1, hs, HB⟩ := two_boxes w #[Value.int IntKind.i64 p.pts, Value.slice a p.bs.length cap] #[.int .i64 0, .slice none 0 0] 25 25
      rw [← hW.out]
      refine (impl_PlanOk p _ _ (Hv.out.ext HB)).mono ?_
      rintro e w1 ⟨rfl, hb1⟩
      have B0 := B0.ext hb1
      have B1 := B1.ext hb1
      rw [hok]
      obtain ⟨rc0, rz0⟩ := (B0).rules; have rl0 := (B0).lt
      obtain ⟨rc1, rz1⟩ := (B1).rules; have rl1 := (B1).lt
      go_wp2_with (go_at_call 51; refine (impl_in _ _ _ _).mono ?_; rintro e w' ⟨rfl, rfl⟩; rw [hk])
      refine bodyPost_ret (v := .tuple #[.agg #[.int .i64 0, .slice none 0 0], .bool false]) (by simp [results, Try.results19, go_sem, *]) rfl ?_
      rw [lowered_no Hno.out, Hno.out]
      exact ⟨_, rfl, Bds.nil _ _, ext_set (ext_set (ext_trans HB hb1) (by simp) _) (by simp) _⟩
  · simp only [Bool.not_eq_true] at hok
    have hno : p.lowOk k = false := by simp [Pl.lowOk, hok]
    have Hno := Lib.hid hno
    clear hno
    go_enter Try.func19, Try.ntmps19
    go_wp2_with fail
    obtain ⟨W, hW, B0, B1, hs, HB⟩ := two_boxes w #[Value.int IntKind.i64 p.pts, Value.slice a p.bs.length cap] #[.int .i64 0, .slice none 0 0] 25 25
    rw [← hW.out]
    refine (impl_PlanOk p _ _ (Hv.out.ext HB)).mono ?_
    rintro e w1 ⟨rfl, hb1⟩
    have B0 := B0.ext hb1
    have B1 := B1.ext hb1
    rw [hok]
    obtain ⟨rc0, rz0⟩ := (B0).rules; have rl0 := (B0).lt
    obtain ⟨rc1, rz1⟩ := (B1).rules; have rl1 := (B1).lt
    go_wp2_with fail
    refine bodyPost_ret (v := .tuple #[.agg #[.int .i64 0, .slice none 0 0], .bool false]) (by simp [results, Try.results19, go_sem, *]) rfl ?_
    rw [lowered_no Hno.out, Hno.out]
    exact ⟨_, rfl, Bds.nil _ _, ext_set (ext_set (ext_trans HB hb1) (by simp) _) (by simp) _⟩
theorem lowW_eq {p : Pl} {k : Int} (hok : p.ok = true) (hk : inB k 0 99 = true) : p.bs.map (Bd.lowerW k) = p.bs.map (Bd.lower k) := by
  apply List.map_congr_left
  intro b hb
  obtain ⟨j, hj⟩ := List.mem_iff_getElem?.1 hb
  have := (ok_bound hok hj).2.2
  have hk := (inB_iff _ _ _).1 hk
  simp only [Bd.lowerW, Bd.lower]
  rw [IntWalk.i64_in _ (by omega)]
set_option maxRecDepth 100000 in
set_option maxHeartbeats 2000000 in
theorem spec_LoweredBy (p : Pl) (k : Int) (bs : Value) (w : World) (hv : Bds w 0 bs p.bs) (hlen : p.bs.length ≤ 2000000) :
    Calls Try.prog 20 #[.agg #[.int .i64 p.pts, bs], .int .i64 k] w (RetPlanB w (p.lowered k) (p.lowOk k)) := by
  have Hv := Lib.hid hv
  obtain ⟨a, cap, rfl, hn, hc, -⟩ := hv.open
  obtain ⟨i0, hi, hz0, hz1, hz2⟩ := info_parts info_bound
  have Hi := Lib.hid hi; have Hz0 := Lib.hid hz0; have Hz1 := Lib.hid hz1; have Hz2 := Lib.hid hz2
  clear hv hi hz0 hz1 hz2
  go_enter Try.func20, Try.ntmps20
  go_wp2_with fail
  obtain ⟨W, hW, B0, B1, B2, hs, HB⟩ := three_boxes w #[Value.int IntKind.i64 p.pts, Value.slice a p.bs.length cap] #[.int .i64 0, .slice none 0 0] #[.int .i64 p.pts, .slice none 0 0] 25 25 25
  rw [← hW.out]
  go_loopg [7] p.bs.length (fun n kk wr => ∃ (j : Nat) (v : Value), j ≤ p.bs.length ∧ n = p.bs.length - j ∧ kk = .int .i64 j ∧
    Bds wr W.heap.size v ((p.bs.take j).map (Bd.lowerW k)) ∧ Box wr (w.heap.size + 1 + 1) 25 #[.int .i64 p.pts, v] ∧ Box wr w.heap.size 25 #[.int .i64 p.pts, .slice a p.bs.length cap] ∧ Box wr (w.heap.size + 1) 25 #[.int .i64 0, .slice none 0 0] ∧
    Below w.heap.size w wr ∧ W.heap.size ≤ wr.heap.size)
  case atStart => exact ⟨0, _, by omega, by omega, rfl, Bds.nil _ _, B2, B0, B1, HB, Nat.le_refl _⟩
  case round =>
    obtain ⟨j, v, hj, hgk, rfl, hbd, hB2, hB0, hB1, hbel, hwr⟩ := hrel
    obtain ⟨rc2, rz2⟩ := (hB2).rules; have rl2 := (hB2).lt
    obtain ⟨rc0, rz0⟩ := (hB0).rules; have rl0 := (hB0).lt
    have l1 := hB1.lt
    have Hk := Lib.hid hgk; have Hbd := Lib.hid hbd
    clear hgk hbd
    obtain ⟨av, capv, hve, -⟩ := Hbd.out.open
    rw [show ((p.bs.take j).map (Bd.lowerW k)).length = j by rw [List.length_map, List.length_take]; omega] at hve
    subst hve
    by_cases hlt : j < p.bs.length
    · obtain ⟨g, rfl, hg0, hg, hfz, k0, k1, k2⟩ := (Hv.out.ext hbel).at_ hlt
      have hgw : g < w.heap.size := (Hv.out.lt g rfl).2
      have Hb := Lib.hid (getD_of p.bs j Bd.z hlt)
      generalize p.bs.getD j Bd.z = b at *
      go_wp2_with fail
      refine wp_region_tail 26 (by kernel_rfl) (by kernel_rfl) (fun w' => w'.cell? ⟨w.heap.size, 1, none⟩ = some (.slice (some ⟨g, 0, none⟩) p.bs.length cap) ∧ w'.cell? ⟨w.heap.size + 1 + 1, 1, none⟩ = some (.slice av j capv) ∧ w'.cell? ⟨g, j*3, none⟩ = some (.int .i64 b.f) ∧ w'.cell? ⟨g, j*3+1, none⟩ = some (.int .i64 b.t) ∧ w'.cell? ⟨g, j*3+2, none⟩ = some (.int .i64 b.m)) ?_ ?_
      · exact ⟨hB0.cell0 rfl, hB2.cell0 rfl, k0, k1, k2⟩
      intro hHeld
      simp only [List.pop_toArray, List.dropLast]
      refine wpAnyH_take (i := 0) (v := ?_) rfl (by kernel_rfl) (by kernel_rfl) (by kernel_rfl) (fun _ _ _ h => h) (Or.inl ⟨by rfl, fun w' hS' => ?_⟩) (by assumption) ?_
      rotate_left
      · (try dsimp only at hS'); go_simp; (try rw [if_pos (by omega)]); try with_reducible rfl
      try simp only [Act.put, List.getElem_toArray, List.getElem_cons_zero, List.getElem_cons_succ, List.setIfInBounds_toArray, List.set_cons_zero, List.set_cons_succ]
      refine wpAnyH_take (i := 1) (v := ?_) rfl (by kernel_rfl) (by kernel_rfl) (by kernel_rfl) (fun _ _ _ h => h) (Or.inl ⟨by rfl, fun w' hS' => ?_⟩) (by assumption) ?_
      rotate_left
      · (try dsimp only at hS'); go_simp; (try rw [if_pos (by omega)]); try with_reducible rfl
      try simp only [Act.put, List.getElem_toArray, List.getElem_cons_zero, List.getElem_cons_succ, List.setIfInBounds_toArray, List.set_cons_zero, List.set_cons_succ]
      refine wpAnyH_take (i := 2) (v := ?_) rfl (by kernel_rfl) (by kernel_rfl) (by kernel_rfl) (fun _ _ _ h => h) (Or.inl ⟨by rfl, fun w' hS' => ?_⟩) (by assumption) ?_
      rotate_left
      · (try dsimp only at hS'); go_simp; (try rw [if_pos (by omega)]); try with_reducible rfl
      try simp only [Act.put, List.getElem_toArray, List.getElem_cons_zero, List.getElem_cons_succ, List.setIfInBounds_toArray, List.set_cons_zero, List.set_cons_succ]
      refine wpAnyH_take (i := 3) (v := ?_) rfl (by kernel_rfl) (by kernel_rfl) (by kernel_rfl) (fun _ _ _ h => h) (Or.inl ⟨by rfl, fun w' hS' => ?_⟩) (by assumption) ?_
      rotate_left
      · (try dsimp only at hS'); go_simp; (try rw [if_pos (by omega)]); try with_reducible rfl
      try simp only [Act.put, List.getElem_toArray, List.getElem_cons_zero, List.getElem_cons_succ, List.setIfInBounds_toArray, List.set_cons_zero, List.set_cons_succ]
      refine wpAnyH_take (i := 4) (v := ?_) rfl (by kernel_rfl) (by kernel_rfl) (by kernel_rfl) (fun _ _ _ h => h) (Or.inl ⟨by rfl, fun w' hS' => ?_⟩) (by assumption) ?_
      rotate_left
      · (try dsimp only at hS'); go_simp; (try rw [if_pos (by omega)]); try with_reducible rfl
      try simp only [Act.put, List.getElem_toArray, List.getElem_cons_zero, List.getElem_cons_succ, List.setIfInBounds_toArray, List.set_cons_zero, List.set_cons_succ]
      refine wpAnyH_take (i := 5) (v := ?_) rfl (by kernel_rfl) (by kernel_rfl) (by kernel_rfl) (fun _ _ _ h => h) (Or.inl ⟨by rfl, fun w' hS' => ?_⟩) (by assumption) ?_
      rotate_left
      · (try dsimp only at hS'); go_simp; (try rw [if_pos (by omega)]); try with_reducible rfl
      try simp only [Act.put, List.getElem_toArray, List.getElem_cons_zero, List.getElem_cons_succ, List.setIfInBounds_toArray, List.set_cons_zero, List.set_cons_succ]
      refine wpAnyH_take (i := 6) (v := ?_) rfl (by kernel_rfl) (by kernel_rfl) (by kernel_rfl) (fun _ _ _ h => h) (Or.inl ⟨by rfl, fun w' hS' => ?_⟩) (by assumption) ?_
      rotate_left
      · (try dsimp only at hS'); go_simp; (try rw [if_pos (by omega)]); try with_reducible rfl
      try simp only [Act.put, List.getElem_toArray, List.getElem_cons_zero, List.getElem_cons_succ, List.setIfInBounds_toArray, List.set_cons_zero, List.set_cons_succ]
      refine wpAnyH_take (i := 7) (v := ?_) rfl (by kernel_rfl) (by kernel_rfl) (by kernel_rfl) (fun _ _ _ h => h) (Or.inl ⟨by rfl, fun w' hS' => ?_⟩) (by assumption) ?_
      rotate_left
      · (try dsimp only at hS'); go_simp; (try rw [if_pos (by omega)]); try with_reducible rfl
      try simp only [Act.put, List.getElem_toArray, List.getElem_cons_zero, List.getElem_cons_succ, List.setIfInBounds_toArray, List.set_cons_zero, List.set_cons_succ]
      refine wpAnyH_take (i := 8) (v := ?_) rfl (by kernel_rfl) (by kernel_rfl) (by kernel_rfl) (fun _ _ _ h => h) (Or.inl ⟨by rfl, fun w' hS' => ?_⟩) (by assumption) ?_
      rotate_left
      · (try dsimp only at hS'); go_simp; (try rw [if_pos (by omega)]); try with_reducible rfl
      try simp only [Act.put, List.getElem_toArray, List.getElem_cons_zero, List.getElem_cons_succ, List.setIfInBounds_toArray, List.set_cons_zero, List.set_cons_succ]
      refine wpAnyH_take (i := 9) (v := ?_) rfl (by kernel_rfl) (by kernel_rfl) (by kernel_rfl) (fun _ _ _ h => h) (Or.inl ⟨by rfl, fun w' hS' => ?_⟩) (by assumption) ?_
      rotate_left
      · (try dsimp only at hS'); go_simp; (try rw [if_pos (by omega)]); try with_reducible rfl
      try simp only [Act.put, List.getElem_toArray, List.getElem_cons_zero, List.getElem_cons_succ, List.setIfInBounds_toArray, List.set_cons_zero, List.set_cons_succ]
      refine wpAnyH_take (i := 10) (v := ?_) rfl (by kernel_rfl) (by kernel_rfl) (by kernel_rfl) (fun _ _ _ h => h) (Or.inl ⟨by rfl, fun w' hS' => ?_⟩) (by assumption) ?_
      rotate_left
      · (try dsimp only at hS'); go_simp; (try rw [if_pos (by omega)]); try with_reducible rfl
      try simp only [Act.put, List.getElem_toArray, List.getElem_cons_zero, List.getElem_cons_succ, List.setIfInBounds_toArray, List.set_cons_zero, List.set_cons_succ]
      refine wpAnyH_take (i := 11) (v := ?_) rfl (by kernel_rfl) (by kernel_rfl) (by kernel_rfl) (fun _ _ _ h => h) (Or.inl ⟨by rfl, fun w' hS' => ?_⟩) (by assumption) ?_
      rotate_left
      · (try dsimp only at hS'); go_simp; (try rw [if_pos (by omega)]); try with_reducible rfl
      try simp only [Act.put, List.getElem_toArray, List.getElem_cons_zero, List.getElem_cons_succ, List.setIfInBounds_toArray, List.set_cons_zero, List.set_cons_succ]
      refine wpAnyH_take (i := 12) (v := ?_) rfl (by kernel_rfl) (by kernel_rfl) (by kernel_rfl) (fun _ _ _ h => h) (Or.inl ⟨by rfl, fun w' hS' => ?_⟩) (by assumption) ?_
      rotate_left
      · (try dsimp only at hS'); go_simp; (try rw [if_pos (by omega)]); try with_reducible rfl
      try simp only [Act.put, List.getElem_toArray, List.getElem_cons_zero, List.getElem_cons_succ, List.setIfInBounds_toArray, List.set_cons_zero, List.set_cons_succ]
      refine wpAnyH_take (i := 13) (v := ?_) rfl (by kernel_rfl) (by kernel_rfl) (by kernel_rfl) (fun _ _ _ h => h) (Or.inl ⟨by rfl, fun w' hS' => ?_⟩) (by assumption) ?_
      rotate_left
      · (try dsimp only at hS'); go_simp; (try rw [if_pos (by omega)]); try with_reducible rfl
      try simp only [Act.put, List.getElem_toArray, List.getElem_cons_zero, List.getElem_cons_succ, List.setIfInBounds_toArray, List.set_cons_zero, List.set_cons_succ]
      refine wpAnyH_take (i := 14) (v := ?_) rfl (by kernel_rfl) (by kernel_rfl) (by kernel_rfl) (fun _ _ _ h => h) (Or.inl ⟨by rfl, fun w' hS' => ?_⟩) (by assumption) ?_
      rotate_left
      · (try dsimp only at hS'); go_simp; (try rw [if_pos (by omega)]); try with_reducible rfl
      try simp only [Act.put, List.getElem_toArray, List.getElem_cons_zero, List.getElem_cons_succ, List.setIfInBounds_toArray, List.set_cons_zero, List.set_cons_succ]
      refine wpAnyH_take (i := 15) (v := ?_) rfl (by kernel_rfl) (by kernel_rfl) (by kernel_rfl) (fun _ _ _ h => h) (Or.inl ⟨by rfl, fun w' hS' => ?_⟩) (by assumption) ?_
      rotate_left
      · (try dsimp only at hS'); go_simp; (try rw [if_pos (by omega)]); try with_reducible rfl
      try simp only [Act.put, List.getElem_toArray, List.getElem_cons_zero, List.getElem_cons_succ, List.setIfInBounds_toArray, List.set_cons_zero, List.set_cons_succ]
      refine wpAnyH_take (i := 16) (v := ?_) rfl (by kernel_rfl) (by kernel_rfl) (by kernel_rfl) (fun _ _ _ h => h) (Or.inl ⟨by rfl, fun w' hS' => ?_⟩) (by assumption) ?_
      rotate_left
      · (try dsimp only at hS'); go_simp; (try rw [if_pos (by omega)]); try with_reducible rfl
      try simp only [Act.put, List.getElem_toArray, List.getElem_cons_zero, List.getElem_cons_succ, List.setIfInBounds_toArray, List.set_cons_zero, List.set_cons_succ]
      refine wpAnyH_take (i := 17) (v := ?_) rfl (by kernel_rfl) (by kernel_rfl) (by kernel_rfl) (fun _ _ _ h => h) (Or.inl ⟨by rfl, fun w' hS' => ?_⟩) (by assumption) ?_
      rotate_left
      · (try dsimp only at hS'); go_simp; (try rw [if_pos (by omega)]); try with_reducible rfl
      try simp only [Act.put, List.getElem_toArray, List.getElem_cons_zero, List.getElem_cons_succ, List.setIfInBounds_toArray, List.set_cons_zero, List.set_cons_succ]
      refine wpAnyH_take (i := 18) (v := ?_) rfl (by kernel_rfl) (by kernel_rfl) (by kernel_rfl) (fun _ _ _ h => h) (Or.inl ⟨by rfl, fun w' hS' => ?_⟩) (by assumption) ?_
      rotate_left
      · (try dsimp only at hS'); go_simp; (try rw [if_pos (by omega)]); try with_reducible rfl
      try simp only [Act.put, List.getElem_toArray, List.getElem_cons_zero, List.getElem_cons_succ, List.setIfInBounds_toArray, List.set_cons_zero, List.set_cons_succ]
      refine wpAnyH_take (i := 19) (v := ?_) rfl (by kernel_rfl) (by kernel_rfl) (by kernel_rfl) (fun _ _ _ h => h) (Or.inl ⟨by rfl, fun w' hS' => ?_⟩) (by assumption) ?_
      rotate_left
      · (try dsimp only at hS'); go_simp; (try rw [if_pos (by omega)]); try with_reducible rfl
      try simp only [Act.put, List.getElem_toArray, List.getElem_cons_zero, List.getElem_cons_succ, List.setIfInBounds_toArray, List.set_cons_zero, List.set_cons_succ]
      refine wpAnyH_take (i := 20) (v := ?_) rfl (by kernel_rfl) (by kernel_rfl) (by kernel_rfl) (fun _ _ _ h => h) (Or.inl ⟨by rfl, fun w' hS' => ?_⟩) (by assumption) ?_
      rotate_left
      · (try dsimp only at hS'); go_simp; (try rw [if_pos (by omega)]); try with_reducible rfl
      try simp only [Act.put, List.getElem_toArray, List.getElem_cons_zero, List.getElem_cons_succ, List.setIfInBounds_toArray, List.set_cons_zero, List.set_cons_succ]
      refine wpAnyH_take (i := 21) (v := ?_) rfl (by kernel_rfl) (by kernel_rfl) (by kernel_rfl) (fun _ _ _ h => h) (Or.inl ⟨by rfl, fun w' hS' => ?_⟩) (by assumption) ?_
      rotate_left
      · (try dsimp only at hS'); go_simp; (try rw [if_pos (by omega)]); try with_reducible rfl
      try simp only [Act.put, List.getElem_toArray, List.getElem_cons_zero, List.getElem_cons_succ, List.setIfInBounds_toArray, List.set_cons_zero, List.set_cons_succ]
      refine wpAnyH_take (i := 22) (v := ?_) rfl (by kernel_rfl) (by kernel_rfl) (by kernel_rfl) (fun _ _ _ h => h) (Or.inl ⟨by rfl, fun w' hS' => ?_⟩) (by assumption) ?_
      rotate_left
      · (try dsimp only at hS'); go_simp; (try rw [if_pos (by omega)]); try with_reducible rfl
      try simp only [Act.put, List.getElem_toArray, List.getElem_cons_zero, List.getElem_cons_succ, List.setIfInBounds_toArray, List.set_cons_zero, List.set_cons_succ]
      refine wpAnyH_ready (rs := [23]) (by kernel_rfl) (by simp) ?_
      refine AllReadyH.cons rfl (fun K' hK => ?_) AllReadyH.nil
      refine if_yes (by rfl) ?_
      try simp only [Act.put, List.getElem_toArray, List.getElem_cons_zero, List.getElem_cons_succ, List.setIfInBounds_toArray, List.set_cons_zero, List.set_cons_succ]
      go_simp
      refine hK.out _ _ ?_ (fun hHeld => ?_)
      · exact ⟨(hB0.alloc _).cell0 rfl, (hB2.alloc _).cell0 rfl, (cell_alloc hg _).trans k0, (cell_alloc hg _).trans k1, (cell_alloc hg _).trans k2⟩
      clear hK K'
      try simp only [Act.put, List.getElem_toArray, List.getElem_cons_zero, List.getElem_cons_succ, List.setIfInBounds_toArray, List.set_cons_zero, List.set_cons_succ]
      have hOwn := lenOwn Hbd.out (n := j) (by rw [List.length_map, List.length_take]; omega)
      have hLit := World.ownsRow_lit (base := 0) (e := 48) (size := 3) wr #[.int .i64 b.f, .int .i64 b.t, .int .i64 (IntKind.i64.wrap (b.m - k))] 1 (Nat.zero_le _) (by decide) rfl
      refine wpAnyH_ready (rs := [24]) (by kernel_rfl) (by simp) ?_
      refine AllReadyH.cons rfl (fun K' hK => ?_) AllReadyH.nil
      refine if_yes (by rfl) ?_
      try simp only [Act.put, List.getElem_toArray, List.getElem_cons_zero, List.getElem_cons_succ, List.setIfInBounds_toArray, List.set_cons_zero, List.set_cons_succ]
      refine wp_app _ (.tmp 19) (.tmp 41) 23 rfl W.heap.size 0 48 i0 _ 3 24 Try.underlying23 Hi.out Hz0.out Hz1.out Hz2.out rfl (by decide) (.slice av j capv) j _ rfl (hOwn.alloc _).drew (.slice (some ⟨wr.heap.size, 0, none⟩) 1 1) 1 (bcells [Bd.lowerW k b]) rfl hLit.drew (bcells_one _) ?_ ?_ ?_ ?_
      · unfold maxLen; omega
      · omega
      · simp; omega
      intro v' w' hown hgrow
      obtain ⟨a', cap', rfl, -⟩ := own_open hown
      have Hown := Lib.hid hown
      have hbl : ∀ k, (Value.slice av j capv).ownBlock = some k → W.heap.size ≤ k := fun k hk => (own_lt hOwn k hk).1
      have hne : ∀ b, b < W.heap.size → some b ≠ (Value.slice av j capv).ownBlock := fun b hb he => by have := hbl b he.symm; omega
      have D0 := (hB0.alloc (.cells #[.int .i64 b.f, .int .i64 b.t, .int .i64 (IntKind.i64.wrap (b.m - k))] 48)).drew.grown hgrow (hne _ (by omega))
      have D1 := (hB1.alloc (.cells #[.int .i64 b.f, .int .i64 b.t, .int .i64 (IntKind.i64.wrap (b.m - k))] 48)).drew.grown hgrow (hne _ (by omega))
      have D2 := (hB2.alloc (.cells #[.int .i64 b.f, .int .i64 b.t, .int .i64 (IntKind.i64.wrap (b.m - k))] 48)).drew.grown hgrow (hne _ (by omega))
      have hbel' : Below w.heap.size w w' := ext_grown (ext_drew (ext_alloc hbel _)) hgrow (fun k hk => by have := hbl k hk; omega)
      have hsz' := hgrow.size
      simp only [World.size_alloc, World.size_drew] at hsz'
      refine hK.out _ _ ?_ (fun hHeld => ?_)
      · have hq : ∀ o, w'.cell? ⟨g, o, none⟩ = wr.cell? ⟨g, o, none⟩ := fun o => (hbel'.cell (by exact hgw)).trans (hbel.cell (by exact hgw)).symm
        exact ⟨D0.cell0 rfl, D2.cell0 rfl, (hq _).trans k0, (hq _).trans k1, (hq _).trans k2⟩
      clear hK K'
      try simp only [Act.put, List.getElem_toArray, List.getElem_cons_zero, List.getElem_cons_succ, List.setIfInBounds_toArray, List.set_cons_zero, List.set_cons_succ]
      obtain ⟨d2, y2⟩ := D2.rules
      refine wpAnyH_take (i := 25) (v := ?_) rfl (by kernel_rfl) (by kernel_rfl) (by kernel_rfl) (fun _ _ _ h => h) (Or.inl ⟨by rfl, fun w' hS' => ?_⟩) (by assumption) ?_
      rotate_left
      · (try dsimp only at hS'); go_simp; (try rw [if_pos (by omega)]); try with_reducible rfl
      try simp only [Act.put, List.getElem_toArray, List.getElem_cons_zero, List.getElem_cons_succ, List.setIfInBounds_toArray, List.set_cons_zero, List.set_cons_succ]
      refine wpAnyH_done (by kernel_rfl) ?_ _
      refine tail_step rfl (fun K' hK => ?_)
      refine if_yes (by rfl) ?_
      try simp only [Act.put, List.getElem_toArray, List.getElem_cons_zero, List.getElem_cons_succ, List.setIfInBounds_toArray, List.set_cons_zero, List.set_cons_succ]
      go_simp
      refine hK _ _ ?_
      clear hK K'
      try simp only [Act.put, List.getElem_toArray, List.getElem_cons_zero, List.getElem_cons_succ, List.setIfInBounds_toArray, List.set_cons_zero, List.set_cons_succ]
      go_wp2_with fail
      go_roundg (p.bs.length - (j+1))
      case rel =>
        refine ⟨j+1, .slice a' (j+1) cap', by omega, rfl, by go_num, ?_, D2.set 1 _, D0.far (by simp; omega) _, D1.far (by simp) _, ext_set hbel' (by simp; omega) _, by simp [World.setCell]; omega⟩
        refine Bds.low ?_ (by simp; omega) _
        have := Hown.out
        rw [take_map_next _ _ _ _ Hb.out]
        unfold Bds
        rw [bcells_append, List.length_append, List.length_map, List.length_take, Nat.min_eq_left (by omega)]
        exact this
      case measure => have := Hk.out; omega
    · have hjl : j = p.bs.length := by omega
      subst hjl
      obtain ⟨q, hq⟩ : ∃ q : Pl, Hid (q = ⟨p.pts, p.bs.map (Bd.lowerW k)⟩) := ⟨_, rfl⟩
      have hb := Hbd.out
      rw [List.take_length] at hb
      have hqp : q.pts = p.pts := by rw [hq.out]
      have hqb : q.bs = p.bs.map (Bd.lowerW k) := by rw [hq.out]
      rw [← hqb] at hb
      have hql : q.bs.length = p.bs.length := by rw [hqb, List.length_map]
      have Hb := Lib.hid hb; have Hqp := Lib.hid hqp; have Hqb := Lib.hid hqb; have Hql := Lib.hid hql
      clear hb hqp hqb hql
      -- the answer
      have hans : p.lowOk k = (p.ok && (q.ok && inB k 0 99)) ∧ (p.lowOk k = true → p.lowered k = q) := by
        by_cases hok : p.ok = true
        · by_cases hk : inB k 0 99 = true
          · have e : p.low k = q := by rw [hq.out, lowW_eq hok hk]; rfl
            simp [Pl.lowOk, Pl.lowered, hok, hk, e]
            intro h; simp [h]
          · simp [Pl.lowOk, hk]
        · simp [Pl.lowOk, hok]
      obtain ⟨ha1, ha2⟩ := hans
      have Ha1 := Lib.hid ha1; have Ha2 := Lib.hid ha2
      clear ha1 ha2
      go_wp2_with fail
      refine (spec_PlanOk p _ _ (Hv.out.ext hbel)).mono ?_
      rintro e w1 ⟨rfl, hb1⟩
      have hB0 := hB0.ext hb1
      have hB1 := hB1.ext hb1
      have hB2 := hB2.ext hb1
      have hbel1 := ext_trans hbel hb1
      have hz1 := hb1.size
      clear rc0 rz0 rl0 rc2 rz2 rl2
      obtain ⟨rc2, rz2⟩ := (hB2).rules; have rl2 := (hB2).lt
      obtain ⟨rc1, rz1⟩ := (hB1).rules; have rl1 := (hB1).lt
      by_cases hok : p.ok = true
      · rw [hok]
        go_wp2_with fail
        have hspec := spec_PlanOk q (.slice av p.bs.length capv) w1 ((Hb.out.ext hb1).base (Nat.zero_le _))
        rw [Hqp.out] at hspec
        refine hspec.mono ?_
        rintro e w2 ⟨rfl, hb2⟩
        have hB1 := hB1.ext hb2
        have hB2 := hB2.ext hb2
        have hbel2 := ext_trans hbel1 hb2
        have hz2 := hb2.size
        clear rc1 rz1 rl1 rc2 rz2 rl2
        obtain ⟨rc2, rz2⟩ := (hB2).rules; have rl2 := (hB2).lt
        obtain ⟨rc1, rz1⟩ := (hB1).rules; have rl1 := (hB1).lt
        by_cases hq2 : q.ok = true
        · rw [hq2]
          by_cases hk : inB k 0 99 = true
          · go_wp2_with (go_at_call 58; refine (spec_l1In _ _ _ _).mono ?_; rintro e w' ⟨rfl, rfl⟩; rw [hk])
            refine bodyPost_ret (v := .tuple #[.agg #[.int .i64 p.pts, .slice av p.bs.length capv], .bool true]) (by simp [results, Try.results20, go_sem, *]) rfl ?_
            have hT : p.lowOk k = true := by rw [Ha1.out, hok, hq2, hk]; rfl
            rw [Ha2.out hT, hT]
            refine ⟨.slice av p.bs.length capv, by rw [Hqp.out], own_base (own_low (own_low ((Hb.out.ext hb1).ext hb2) (by simp; omega) _) (by simp; omega) _) (by omega), ext_set (ext_set hbel2 (by simp) _) (by simp) _⟩
          · simp only [Bool.not_eq_true] at hk
            go_wp2_with (go_at_call 58; refine (spec_l1In _ _ _ _).mono ?_; rintro e w' ⟨rfl, rfl⟩; rw [hk])
            refine bodyPost_ret (v := .tuple #[.agg #[.int .i64 0, .slice none 0 0], .bool false]) (by simp [results, Try.results20, go_sem, *]) rfl ?_
            have hT : p.lowOk k = false := by rw [Ha1.out, hk]; simp
            rw [lowered_no hT, hT]
            exact ⟨_, rfl, Bds.nil _ _, ext_set (ext_set hbel2 (by simp) _) (by simp) _⟩
        · simp only [Bool.not_eq_true] at hq2
          rw [hq2]
          go_wp2_with fail
          refine bodyPost_ret (v := .tuple #[.agg #[.int .i64 0, .slice none 0 0], .bool false]) (by simp [results, Try.results20, go_sem, *]) rfl ?_
          have hT : p.lowOk k = false := by rw [Ha1.out, hq2]; simp
          rw [lowered_no hT, hT]
          exact ⟨_, rfl, Bds.nil _ _, ext_set (ext_set hbel2 (by simp) _) (by simp) _⟩
      · simp only [Bool.not_eq_true] at hok
        rw [hok]
        go_wp2_with fail
        refine bodyPost_ret (v := .tuple #[.agg #[.int .i64 0, .slice none 0 0], .bool false]) (by simp [results, Try.results20, go_sem, *]) rfl ?_
        have hT : p.lowOk k = false := by rw [Ha1.out, hok]; simp
        rw [lowered_no hT, hT]
        exact ⟨_, rfl, Bds.nil _ _, ext_set (ext_set hbel1 (by simp) _) (by simp) _⟩
end Go.Proofs.Ytlcmhcfnmohgmaa
