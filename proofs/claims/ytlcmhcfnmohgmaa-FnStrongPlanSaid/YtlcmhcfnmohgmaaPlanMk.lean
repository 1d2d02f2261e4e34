/- The walks of the functions that make plans of plans: copies, turned ones, further bounds. Conditions: the plan's bounds can be read; where they are appended to, fewer than two million. -/
import Derived.Test.YtlcmhcfnmohgmaaPlanOk
namespace Go.Proofs.Ytlcmhcfnmohgmaa
open Go.RowKit
set_option linter.unusedVariables false
set_option linter.unusedSimpArgs false
set_option maxHeartbeats 1000000 in
theorem impl_clone (p : Pl) (bs : Value) (w : World) (hv : Bds w 0 bs p.bs) (hlen : p.bs.length ≤ 2000000) :
    Calls Try.prog 55 #[.agg #[.int .i64 p.pts, bs]] w (RetPlan w p) := by
  have Hv := Lib.hid hv
  obtain ⟨a, cap, rfl, hn, hc, -⟩ := hv.open
  obtain ⟨i0, hi, hz0, hz1, hz2⟩ := info_parts info_bound
  have Hi := Lib.hid hi; have Hz0 := Lib.hid hz0; have Hz1 := Lib.hid hz1; have Hz2 := Lib.hid hz2
  clear hv hi hz0 hz1 hz2
  go_enter Try.func55, Try.ntmps55
  go_wp2_with fail
  obtain ⟨W, hW, B0, B1, hs, HB⟩ := two_boxes w #[Value.int IntKind.i64 p.pts, Value.slice a p.bs.length cap] #[.int .i64 0, .slice none 0 0] 25 25
  rw [← hW.out]
  have Hs := Lib.hid hs
  have Hv2 := Lib.hid (Hv.out.ext HB)
  obtain ⟨c0, z0⟩ := B0.rules
  obtain ⟨c1, z1⟩ := B1.rules
  clear hs
  go_region_held3 (fun w' => w'.cell? ⟨w.heap.size, 0, none⟩ = some (Value.int .i64 p.pts) ∧ w'.cell? ⟨w.heap.size, 1, none⟩ = some (.slice a p.bs.length cap))
    (first | exact ⟨c0 0, c0 1⟩ | exact ⟨d0 0, d0 1⟩ | exact ⟨e0 0, e0 1⟩)
    (first | (refine step_app _ rfl (.const (.slice none 0 0)) (.tmp 6) 23 rfl W.heap.size 0 48 i0 _ 3 24 Try.underlying23 Hi.out Hz0.out Hz1.out Hz2.out rfl (by decide) (.slice none 0 0) 0 [] rfl (World.ownsRow_nil _ _ _ _) (.slice a p.bs.length cap) p.bs.length (bcells p.bs) rfl Hv2.out (bcells_one _) ?_ ?_ ?_ ?_
              · unfold maxLen; omega
              · omega
              · simp
              intro v' w' hown hgrow
              obtain ⟨a', cap', rfl, -⟩ := own_open hown
              have D0 := B0.drew.grown hgrow (by simp [Value.ownBlock])
              have D1 := B1.drew.grown hgrow (by simp [Value.ownBlock])
              obtain ⟨d0, y0⟩ := D0.rules
              obtain ⟨d1, y1⟩ := D1.rules
              obtain ⟨e0, x0⟩ := ((D0.far (p := ⟨w.heap.size + 1, 0, none⟩) (by simp) (.int .i64 p.pts)).far (p := ⟨w.heap.size + 1, 1, none⟩) (by simp) (.slice a' p.bs.length cap')).rules
              ))
  go_wp2
  refine bodyPost_ret (v := .agg #[.int .i64 p.pts, .slice a' p.bs.length cap']) (by simp [results, Try.results55, go_sem, *]) rfl ⟨_, rfl, ?_, ?_⟩
  · simp only [Nat.zero_add, List.nil_append] at hown
    exact own_base (own_low (own_low hown (by have := Hs.out; simp; omega) _) (by have := Hs.out; simp; omega) _) (by have := Hs.out; omega)
  · refine ext_set (ext_set (ext_grown (ext_drew HB) hgrow (by simp [Value.ownBlock])) (by simp) _) (by simp) _
theorem run_app_zeros {P : Program} (w : World) (t tx ty e : TypeId) (i : TypeInfo) (z : Value) (size bytes : Nat) (ht : P.underlying t = some (.slice e)) (hx : P.underlying tx = some (.int .i64)) (hi : P.info? e = some i) (hz : i.zero = some z)
    (hsize : i.size = size) (hby : i.bytes = bytes) (hzs : z.cells.size = size) (hsz : 0 < size) (n : Nat) (hn : 0 < n) (hb : n * bytes ≤ 140737488355328) (hn2 : n ≤ 1000000000000) :
    ∃ cap w', (Builtin.append_ #[t, tx] ty #[.slice none 0 0, .int .i64 n]).run P w = .ok (.slice (some ⟨w.heap.size, 0, none⟩) n cap) w' ∧
      w'.ownsRow w.heap.size e size (.slice (some ⟨w.heap.size, 0, none⟩) 0 cap) 0 [] ∧ n ≤ cap ∧ cap ≤ maxLen ∧ w.grownBy w' none := by
  subst hsize
  subst hby
  have hcm : grownCap w n 0 e ≤ maxLen := grownCap_le_maxLen w n 0 e (by unfold maxLen; omega)
  have hcg := grownCap_ge w n 0 e
  refine ⟨grownCap w n 0 e, w.drew.alloc (.cells (Builtin.zeroCells z.cells n ++ Builtin.zeroCells z.cells (grownCap w n 0 e - n)) e), ?_, ⟨by simp, .inr ⟨w.heap.size, _, _, rfl, Nat.le_refl _, heap_alloc_new w.drew _, Nat.zero_le _, hcm, ?_, by simp⟩⟩, hcg, hcm, ⟨rfl, rfl, rfl, by simp, fun k hk _ => heap_alloc_old w.drew _ hk⟩⟩
  · have h0 : ¬ ((n : Int) < 0) := by omega
    have hw : IntKind.i64.wrap (n : Int) = n := IntWalk.i64_in _ (by omega)
    have h1 : ¬ (281474976710656 < (n : Int) * (i.bytes : Int)) := by
      rw [← Int.natCast_mul]
      generalize n * i.bytes = m at *
      omega
    have h2 : n ≠ 0 := by omega
    have h3 : n * i.size ≠ 0 := by have := Nat.mul_pos hn hsz; omega
    have h4 : ¬ (9223372036854775807 < (n : Int)) := by omega
    have h5 : ¬ (281474976710656 < n * i.bytes) := by omega
    simp [Builtin.append_, run_underlying ht, run_underlying hx, sizeOf, typeInfo, zeroValue, hi, hz, hw, h0, h1, h2, h3, h4, h5, asInt, asIntOf, Builtin.nextslicecap, Question.forced, newRow, grownCap, hn, Builtin.firstCells]
  · simp only [Array.size_append, size_zeroCells, hzs, ← Nat.add_mul]
    congr 1
    omega
theorem wpl_app_zeros {P : Program} {ops : Array Oper} {rest : List Oper} {o : Oper} {a : Act} {Q : Exit → Act → World → Prop} (w : World) (hgd : o.guard = none) (s x : Operand) (t tx : TypeId)
    (ho : o.op = .call { callee := .builtin .append, args := #[s, x], argTypes := #[t, tx] })
    (e : TypeId) (i : TypeInfo) (z : Value) (size bytes : Nat) (ht : P.underlying t = some (.slice e)) (hx : P.underlying tx = some (.int .i64)) (hi : P.info? e = some i) (hz : i.zero = some z)
    (hsize : i.size = size) (hby : i.bytes = bytes) (hzs : z.cells.size = size) (hsz : 0 < size) (n : Nat) (hn : 0 < n) (hb : n * bytes ≤ 140737488355328) (hn2 : n ≤ 1000000000000)
    (hs : a.eval s = .slice none 0 0) (hxe : a.eval x = .int .i64 n)
    (h : ∀ cap w', w'.ownsRow w.heap.size e size (.slice (some ⟨w.heap.size, 0, none⟩) 0 cap) 0 [] → n ≤ cap → cap ≤ maxLen → w.grownBy w' none → wpList P ops Q rest (a.put o.dst (.slice (some ⟨w.heap.size, 0, none⟩) n cap)) w') : wpList P ops Q (o :: rest) a w :=
  wpList_plain hgd fun _ hK => by
    obtain ⟨cap, w', hr, h2, h3, h4, h5⟩ := run_app_zeros (P := P) w t tx o.type e i z size bytes ht hx hi hz hsize hby hzs hsz n hn hb hn2
    unfold Oper.wp execOp
    simp only [ho, resolve, invoke, builtin, Sem.run_bind, Sem.run_pure, Result.andThen_ok, List.map_toArray, List.map_cons, List.map_nil, hs, hxe, hr]
    exact hK _ _ (h cap w' h2 h3 h4 h5)
set_option maxRecDepth 100000 in
set_option maxHeartbeats 1000000 in
theorem slices_GrowB (m : Int) (w : World) (hm : 0 ≤ m) (hn : m ≤ 4000000) :
    Calls Try.prog 94 #[.slice none 0 0, .int .i64 m] w (RetBds w []) := by
  obtain ⟨n, rfl⟩ := Int.eq_ofNat_of_zero_le hm
  obtain ⟨i0, hi, hz0, hz1, hz2⟩ := info_parts info_bound
  have Hi := Lib.hid hi; have Hz0 := Lib.hid hz0; have Hz1 := Lib.hid hz1; have Hz2 := Lib.hid hz2
  clear hi hz0 hz1 hz2
  by_cases h0 : 0 < n
  · go_enter Try.func94, Try.ntmps94
    go_wp2_with (at_builtin; refine wpl_app_zeros _ rfl (.tmp 20) (.tmp 21) 23 3 rfl 48 i0 _ 3 24 Try.underlying23 Try.underlying3 Hi.out Hz0.out Hz1.out Hz2.out rfl (by decide) n h0 (by omega) (by omega) rfl rfl ?_; intro cap w' hown hcap hcm hgrow)
    go_ret
    exact ⟨_, rfl, hown, ext_grown (ext_refl _) hgrow (by simp)⟩
  · obtain rfl : n = 0 := by omega
    go_enter Try.func94, Try.ntmps94
    go_wp2
    go_ret
    exact ⟨_, rfl, Bds.nil _ _, ext_refl _⟩
set_option maxRecDepth 100000 in
set_option maxHeartbeats 4000000 in
theorem slices_ConcatB (g : Nat) (s1 s2 : Value) (l1 l2 : List Bd) (w : World) (hb : Box w g 23 #[s1, s2]) (h1 : Bds w 0 s1 l1) (h2 : Bds w 0 s2 l2) (hlen : l1.length + l2.length ≤ 4000000) :
    Calls Try.prog 90 #[.slice (some ⟨g, 0, none⟩) 2 2] w (RetBds w (l1 ++ l2)) := by
  obtain ⟨i0, hi, hz0, hz1, hz2⟩ := info_parts info_bound
  have Hi := Lib.hid hi; have Hz0 := Lib.hid hz0; have Hz1 := Lib.hid hz1; have Hz2 := Lib.hid hz2
  have H1 := Lib.hid h1; have H2 := Lib.hid h2; have Hb := Lib.hid hb
  obtain ⟨a1, cap1, rfl, hn1, hc1, -⟩ := h1.open
  obtain ⟨a2, cap2, rfl, hn2, hc2, -⟩ := h2.open
  obtain ⟨c0, z0⟩ := hb.rules
  clear hi hz0 hz1 hz2 h1 h2 hb
  go_enter Try.func90, Try.ntmps90
  go_wp2_with fail
  refine wp_loop_rounds 3 ?_
  rw [rounds_succ]; go_wp2_with fail
  rw [rounds_succ]; go_wp2_with fail
  rw [rounds_succ]; go_wp2_with fail
  refine (slices_GrowB _ _ (by omega) (by omega)).mono ?_
  rintro e w1 ⟨v0, rfl, hv0, hb1⟩
  obtain ⟨a0, cap0, rfl, -⟩ := hv0.open
  have Hv0 := Lib.hid hv0
  clear hv0
  obtain ⟨cc1, ff1⟩ := (Hb.out.ext hb1).rules
  go_wp2_with fail
  refine wp_loop_rounds 3 ?_
  rw [rounds_succ]
  go_wp2_with (at_builtin; refine wpl_app _ rfl (.tmp 31) (.tmp 32) 23 rfl w.heap.size 0 48 i0 _ 3 24 Try.underlying23 Hi.out Hz0.out Hz1.out Hz2.out rfl (by decide) _ 0 [] rfl Hv0.out _ l1.length (bcells l1) rfl (H1.out.ext hb1) (bcells_one _) (by unfold maxLen; omega) (by omega) hb1.size ?_; intro v1 w2 hown1 hgrow1)
  have hb2 := ext_grown hb1 hgrow1 (fun k hk => (Hv0.out.lt k hk).1)
  have Hown1 := Lib.hid hown1
  clear hown1 hgrow1
  obtain ⟨cc2, ff2⟩ := (Hb.out.ext hb2).rules
  rw [rounds_succ]
  go_wp2_with (at_builtin; refine wpl_app _ rfl (.tmp 31) (.tmp 32) 23 rfl w.heap.size 0 48 i0 _ 3 24 Try.underlying23 Hi.out Hz0.out Hz1.out Hz2.out rfl (by decide) _ (0 + l1.length) _ rfl Hown1.out _ l2.length (bcells l2) rfl (H2.out.ext hb2) (bcells_one _) (by unfold maxLen; omega) (by omega) hb2.size ?_; intro v2 w3 hown2 hgrow2)
  have hb3 := ext_grown hb2 hgrow2 (fun k hk => (own_lt Hown1.out k hk).1)
  have Hown2 := Lib.hid hown2
  clear hown2 hgrow2
  rw [rounds_succ]
  go_wp2_with fail
  go_ret
  refine ⟨_, rfl, ?_, hb3⟩
  have := Hown2.out
  simp only [Nat.zero_add, List.nil_append] at this
  unfold Bds
  rw [List.length_append, bcells_append]
  exact this
def Pl.told (p : Pl) : Pl := if p.ok then p else Pl.zero
set_option maxRecDepth 100000 in
set_option maxHeartbeats 1000000 in
theorem impl_told (p : Pl) (bs : Value) (w : World) (hv : Bds w 0 bs p.bs) (hlen : p.bs.length ≤ 2000000) :
    Calls Try.prog 57 #[.agg #[.int .i64 p.pts, bs]] w (RetPlanB w p.told p.ok) := by
  have Hv := Lib.hid hv
  obtain ⟨a, cap, rfl, hn, hc, -⟩ := hv.open
  clear hv
  go_enter Try.func57, Try.ntmps57
  go_wp2_with fail
  obtain ⟨W, hW, B0, B1, hs, HB⟩ := two_boxes w #[Value.int IntKind.i64 p.pts, Value.slice a p.bs.length cap] #[.int .i64 0, .slice none 0 0] 25 25
  rw [← hW.out]
  have Hs := Lib.hid hs
  clear hs
  refine (impl_PlanOk p _ _ (Hv.out.ext HB)).mono ?_
  rintro e w1 ⟨rfl, hb1⟩
  have B0' := B0.ext hb1
  have B1' := B1.ext hb1
  obtain ⟨c0, z0⟩ := B0'.rules
  obtain ⟨c1, z1⟩ := B1'.rules
  by_cases hok : p.ok = true
  · rw [hok]
    go_wp2_with fail
    refine (impl_clone p _ _ (Hv.out.ext (ext_trans HB hb1)) hlen).mono ?_
    rintro e w2 ⟨v2, rfl, hv2, hb2⟩
    obtain ⟨a2, cap2, rfl, -⟩ := hv2.open
    obtain ⟨d0, y0⟩ := (B0'.ext hb2).rules
    obtain ⟨d1, y1⟩ := (B1'.ext hb2).rules
    have Hv2 := Lib.hid hv2
    clear hv2 c0 c1 z0 z1
    go_wp2
    refine bodyPost_ret (v := .tuple #[.agg #[.int .i64 p.pts, .slice a2 p.bs.length cap2], .bool true]) (by simp [results, Try.results57, go_sem, *]) rfl ?_
    rw [show p.told = p from if_pos hok, hok]
    have hz1 := hb1.size
    have hs := Hs.out
    exact ⟨_, rfl, own_base (own_low (own_low Hv2.out (by simp; omega) _) (by simp; omega) _) (by omega), ext_set (ext_set (ext_trans (ext_trans HB hb1) hb2) (by simp) _) (by simp) _⟩
  · simp only [Bool.not_eq_true] at hok
    rw [hok]
    go_wp2
    refine bodyPost_ret (v := .tuple #[.agg #[.int .i64 0, .slice none 0 0], .bool false]) (by simp [results, Try.results57, go_sem, *]) rfl ?_
    rw [show p.told = Pl.zero from if_neg (by simp [hok]), hok]
    exact ⟨_, rfl, Bds.nil _ _, ext_set (ext_set (ext_trans HB hb1) (by simp) _) (by simp) _⟩
set_option maxRecDepth 100000 in
set_option maxHeartbeats 1000000 in
theorem impl_with (p : Pl) (bs : Value) (l2 : List Bd) (s2 : Value) (w : World) (hv : Bds w 0 bs p.bs) (hv2 : Bds w 0 s2 l2) (hlen : p.bs.length + l2.length ≤ 4000000) :
    Calls Try.prog 78 #[.agg #[.int .i64 p.pts, bs], s2] w (RetPlan w ⟨p.pts, p.bs ++ l2⟩) := by
  have Hv := Lib.hid hv; have Hv2 := Lib.hid hv2
  obtain ⟨a, cap, rfl, hn, hc, -⟩ := hv.open
  obtain ⟨a2, cap2, rfl, hn2, hc2, -⟩ := hv2.open
  clear hv hv2
  go_enter Try.func78, Try.ntmps78
  go_wp2_with fail
  obtain ⟨W, hW, B0, B1, hs, HB⟩ := two_boxes w #[Value.int IntKind.i64 p.pts, Value.slice a p.bs.length cap] #[.int .i64 0, .slice none 0 0] 25 25
  rw [← hW.out]
  have Hs := Lib.hid hs
  clear hs
  obtain ⟨c0, z0⟩ := B0.rules
  obtain ⟨c1, z1⟩ := B1.rules
  go_region_held3 (fun w' => w'.cell? ⟨w.heap.size, 0, none⟩ = some (Value.int .i64 p.pts) ∧ w'.cell? ⟨w.heap.size, 1, none⟩ = some (.slice a p.bs.length cap))
    (first | exact ⟨c0 0, c0 1⟩ | exact ⟨(B0.drew.alloc _).cell0 rfl, (B0.drew.alloc _).cell0 rfl⟩ | exact ⟨d0 0, d0 1⟩ | exact ⟨D0.cell2 rfl (by simp) (by simp), D0.cell2 rfl (by simp) (by simp)⟩)
    (first | (go_at_call 90
              have hBx := Box.new W.drew 23 #[.slice a p.bs.length cap, .slice a2 l2.length cap2]
              have hE := ext_alloc (ext_drew (ext_refl W)) (.cells #[.slice a p.bs.length cap, .slice a2 l2.length cap2] 23)
              refine (slices_ConcatB _ _ _ p.bs l2 _ hBx ((Hv.out.ext HB).ext hE) ((Hv2.out.ext HB).ext hE) hlen).mono ?_
              rintro e w1 ⟨v1, rfl, hv1, hb1⟩
              obtain ⟨a', cap', rfl, -⟩ := hv1.open
              have Hv1 := Lib.hid hv1
              have hbw := ext_trans hE hb1
              have D0 := B0.ext hbw
              have D1 := B1.ext hbw
              obtain ⟨d0, y0⟩ := D0.rules
              obtain ⟨d1, y1⟩ := D1.rules
              clear hv1 hBx hE))
  go_wp2
  refine bodyPost_ret (v := .agg #[.int .i64 p.pts, .slice a' (p.bs.length + l2.length) cap']) (by simp [results, Try.results78, go_sem, *]) rfl ?_
  have hz1 := hbw.size
  have hs := Hs.out
  have h3 := Hv1.out
  rw [List.length_append] at h3
  exact ⟨_, rfl, own_base (own_low (own_low h3 (by simp; omega) _) (by simp; omega) _) (by simp; omega), ext_set (ext_set (ext_trans HB hbw) (by simp) _) (by simp) _⟩
end Go.Proofs.Ytlcmhcfnmohgmaa
