/- The draw of an order: spec.l20Shuffle gives some row of so many numbers, in memory of its own. No condition but that the reader can be read. -/
import Derived.Test.YtdfcjhcnojgkiaaDrawProj
import Derived.Test.YtdfcjhcnojgkiaaOrder
namespace Go.Proofs.Ytdfcjhcnojgkiaa
open Go.RowKit
set_option linter.unusedVariables false
set_option linter.unusedSimpArgs false
theorem wp_appTail {o : Oper} {a : Act} {K : Act → World → Prop} {Q : Exit → Act → World → Prop} (w : World) (s x : Operand)
    (ho : o.op = .call { callee := .builtin .append, args := #[s, x], argTypes := #[22, 22] })
    (base : Nat) (v : Value) (l : List Int) (hs : a.eval s = v) (hv : Ints w base v l) (ao : Option Addr) (m c : Nat) (l2 : List Int) (hx : a.eval x = .slice ao m c) (hm : l2.length = m)
    (hnone : ao = none → m = 0 ∧ c = 0) (hc : ∀ ad, ao = some ad → ∀ t u, (l2.map (Value.int .i64))[t]? = some u → w.cell? (ad.add t) = some u)
    (hlen : l.length + l2.length ≤ 1000000000) (hbase : base ≤ w.heap.size)
    (h : ∀ v' w', Ints w' base v' (l ++ l2) → w.grownBy w' v.ownBlock → K (a.put o.dst v') w') : o.wp Try.prog a w K Q := by
  cases ao with
  | none =>
    obtain ⟨rfl, rfl⟩ := hnone rfl
    have hl2 : l2 = [] := List.eq_nil_of_length_eq_zero hm
    subst hl2
    exact wp_appI w s x ho base 0 v l hs hv (.slice none 0 0) [] hx (Ints.nil _ _) hlen hbase h
  | some ad =>
    obtain ⟨i0, hi, hz0, hz1, hz2⟩ := info_parts info_int
    obtain ⟨v', w', hr, h2, h3, _⟩ := run_append_own (P := Try.prog) w base 22 o.type 3 i0 _ 1 8 Try.underlying22 hi hz0 hz1 hz2 rfl (by decide) v l.length _ hv ad m c (l2.map (Value.int .i64)) (by simp [hm]) (hc ad rfl) (ints_one _) (by unfold maxLen; omega) (by omega) hbase
    unfold Oper.wp execOp
    simp only [ho, resolve, invoke, builtin, Sem.run_bind, Sem.run_pure, Result.andThen_ok, List.map_toArray, List.map_cons, List.map_nil, hs, hx, hr]
    exact h v' w' (Ints.cut (by rw [hm]; exact h2)) h3
theorem wpl_appTail {ops : Array Oper} {rest : List Oper} {o : Oper} {a : Act} {Q : Exit → Act → World → Prop} (w : World) (hgd : o.guard = none) (s x : Operand)
    (ho : o.op = .call { callee := .builtin .append, args := #[s, x], argTypes := #[22, 22] })
    (base : Nat) (v : Value) (l : List Int) (hs : a.eval s = v) (hv : Ints w base v l) (ao : Option Addr) (m c : Nat) (l2 : List Int) (hx : a.eval x = .slice ao m c) (hm : l2.length = m)
    (hnone : ao = none → m = 0 ∧ c = 0) (hc : ∀ ad, ao = some ad → ∀ t u, (l2.map (Value.int .i64))[t]? = some u → w.cell? (ad.add t) = some u)
    (hlen : l.length + l2.length ≤ 1000000000) (hbase : base ≤ w.heap.size)
    (h : ∀ v' w', Ints w' base v' (l ++ l2) → w.grownBy w' v.ownBlock → wpList Try.prog ops Q rest (a.put o.dst v') w') : wpList Try.prog ops Q (o :: rest) a w :=
  wpList_plain hgd fun _ hK => wp_appTail w s x ho base v l hs hv ao m c l2 hx hm hnone hc hlen hbase fun v' w' h2 h3 => hK _ _ (h v' w' h2 h3)
theorem grown_new {w w1 w2 : World} {g : Nat} {o : Obj} {row : Option Nat} (h : w.grownBy w1 (some g)) (h2 : (w1.alloc o).grownBy w2 row) (hr : ∀ k, row = some k → w.heap.size ≤ k) : w.grownBy w2 (some g) :=
  grown_high (grown_alloc' h o) h2 hr
set_option maxRecDepth 100000 in
set_option maxHeartbeats 8000000 in
theorem spec_l20Shuffle (B g m n : Nat) (w : World) (h : Rd w B g m) (hm : m ≤ 100000) (hn : n ≤ 100) :
    Calls Try.prog 62 #[.pointer (some ⟨g, 0, none⟩), .int .i64 n] w fun e w' => ∃ (v : Value) (l : List Int), e = .returned v ∧ Ints w' w.heap.size v l ∧ l.length = n ∧ Rd w' B g (m + n) ∧ w.grownBy w' (some g) := by
  have R := Lib.hid h
  have hgl := h.lt
  clear h
  go_enter Try.func62, Try.ntmps62
  go_upto_region 2 with fail
  obtain ⟨W, hW, T0, hs, E⟩ := one_box w #[] 3
  rw [← hW.out]
  have O : Hid (Ints W w.heap.size (.slice (some ⟨w.heap.size, 0, none⟩) 0 0) []) := Lib.hid (Ints.ofBox T0 (Nat.le_refl _))
  have G := Lib.hid (grown_of_ext (some g) E)
  have R := Lib.hid (R.out.ext E)
  clear T0 E
  go_wp2_with fail
  go_loopg [5, 6] n (fun z vo kk wr => ∃ (k gb co : Nat) (l : List Int), k ≤ n ∧ z = n - k ∧ kk = .int .i64 k ∧ vo = .slice (some ⟨gb, 0, none⟩) k co ∧ l.length = k ∧ Hid (Ints wr w.heap.size (.slice (some ⟨gb, 0, none⟩) k co) l) ∧ Hid (Rd wr B g (m + k)) ∧ Hid (w.grownBy wr (some g)))
  case atStart => exact ⟨0, w.heap.size, 0, [], by omega, by omega, rfl, rfl, rfl, O, R, G⟩
  case round =>
    clear O R G
    obtain ⟨k, gb, co, l, hk, hgk, rfl, rfl, hl, O, R, G⟩ := hrel
    have Hk := Lib.hid hgk
    clear hgk
    by_cases hlt : k < n
    · have hw : IntKind.i64.wrap ((k : Int) + 1) = (k : Int) + 1 := IntWalk.i64_in _ (by omega)
      go_wp2_with fail
      refine (spec_pick B g _ ((k:Int)+1) _ R.out (by omega)).mono ?_
      rintro e w1 ⟨x1, rfl, hx1, hy1, r1, g1, -⟩
      have R := Lib.hid r1
      have G := Lib.hid (grown_trans' G.out g1)
      have O := Lib.hid (O.out.near g1 (by omega))
      have q1 := g1.size
      clear r1 g1
      obtain ⟨a, rfl⟩ : ∃ a : Nat, x1 = (a : Int) := ⟨x1.toNat, by omega⟩
      have hak : a ≤ k := by omega
      obtain ⟨_, _, he, hkc, hcm, -⟩ := O.out.open
      have hkc2 : k ≤ co := by cases he; omega
      clear he hkc
      have hgbl := O.out.lt gb rfl
      have hgs := G.out.size
      have hta : (l.take a).length = a := by rw [List.length_take]; omega
      go_upto_region 7 with (at_builtin; refine wpl_appI _ rfl (.tmp 19) (.tmp 22) rfl w1.heap.size 0 (.slice (some ⟨w1.heap.size, 0, none⟩) 0 0) [] rfl (Ints.ofBox (Box.new w1 3 #[]) (Nat.le_refl _)) (.slice (some ⟨gb, 0, none⟩) a co) (l.take a) rfl (((O.out.alloc _).first (by omega)).base (Nat.zero_le _)) (by simp; omega) (by simp) ?_; intro v2 w2 hv2 hg2; rw [List.nil_append] at hv2; obtain ⟨a2, c2, rfl, -⟩ := hv2.open)
      have O := Lib.hid ((O.out.alloc _).far hg2 (fun q hq e => by simp [Value.ownBlock] at hq e; omega))
      have R := Lib.hid ((R.out.alloc _).grown hg2 (fun e => by simp [Value.ownBlock] at e; omega) (fun q hq => by simp [Value.ownBlock] at hq; omega))
      have G := Lib.hid (grown_new G.out hg2 (fun q hq => by simp [Value.ownBlock] at hq; omega))
      have q2 := hg2.size
      rw [World.size_alloc] at q2
      rw [hta] at hv2
      try rw [hta]
      have N := Lib.hid hv2
      clear hv2 hg2
      go_upto_region 8 with (at_builtin; refine wpl_appI _ rfl (.tmp 24) (.tmp 26) rfl w1.heap.size 0 (.slice a2 a c2) (l.take a) rfl (N.out.alloc _) (.slice (some ⟨w2.heap.size, 0, none⟩) 1 1) [(k : Int)] rfl ((Ints.lit w2 k).base (Nat.zero_le _)) (by simp; omega) (by simp; omega) ?_; intro v3 w3 hv3 hg3; obtain ⟨a3, c3, rfl, -⟩ := hv3.open)
      have hNl := Lib.hid N.out.lt
      have O := Lib.hid ((O.out.alloc _).far hg3 (fun q hq e => by have := hNl.out _ e; simp [Value.ownBlock] at hq; omega))
      have R := Lib.hid ((R.out.alloc _).grown hg3 (fun e => by have := hNl.out _ e.symm; omega) (fun q hq => by have := hNl.out _ hq; omega))
      have G := Lib.hid (grown_new G.out hg3 (fun q hq => by have := hNl.out _ hq; omega))
      have q3 := hg3.size
      rw [World.size_alloc] at q3
      have h3l : (l.take a ++ [(k : Int)]).length = a + 1 := by simp; omega
      obtain ⟨g3, ha3, _, hg3l, _, _⟩ := hv3.at_ (j := 0) (by rw [h3l]; omega)
      subst ha3
      rw [h3l] at hv3
      try rw [h3l]
      have N := Lib.hid hv3
      clear hv3 hg3 hNl
      have hdl : (l.drop a).length = k - a := by rw [List.length_drop]; omega
      have hcell : ∀ t, t < k → w3.cell? ⟨gb, 0 + t, none⟩ = some (.int .i64 (l.getD t 0)) := fun t ht => by rw [Nat.zero_add]; exact O.out.cellJ (by omega)
      by_cases hca : co = a
      · skip
        go_wp2_with (at_builtin; refine wpl_appTail _ rfl (.tmp 28) (.tmp 31) rfl w1.heap.size (.slice (some ⟨g3, 0, none⟩) (a + 1) c3) (l.take a ++ [(k : Int)]) rfl N.out _ (k - a) _ (l.drop a) rfl hdl (by intro hq; first | (cases hq; done) | (simp at hq; done) | (split at hq <;> simp at hq)) (cells_from (o := 0) (i := a) (c := co) hl hkc2 hcell (fun hq => by first | exact absurd hca hq | (simp; done) | rfl)) (by simp; omega) (by omega) ?_; intro v4 w4 hv4 hg4)
        have hNl := Lib.hid N.out.lt
        have R := Lib.hid (R.out.grown hg4 (fun e => by have := hNl.out _ e.symm; omega) (fun q hq => by have := hNl.out _ hq; omega))
        have G := Lib.hid (grown_high G.out hg4 (fun q hq => by have := hNl.out _ hq; omega))
        have h4l : ((l.take a ++ [(k : Int)]) ++ l.drop a).length = k + 1 := by rw [List.length_append, hdl, h3l]; omega
        obtain ⟨a4, c4, rfl, -⟩ := hv4.open
        obtain ⟨g4, ha4, _, _, _, _⟩ := hv4.at_ (j := 0) (by rw [h4l]; omega)
        subst ha4
        rw [h4l] at hv4
        try rw [h4l]
        go_roundg (n - (k+1))
        case rel => exact ⟨k+1, g4, c4, _, by omega, rfl, by go_num, rfl, h4l, Lib.hid (hv4.base (by omega)), R, G⟩
        case measure => have := Hk.out; omega
      · skip
        go_wp2_with (at_builtin; refine wpl_appTail _ rfl (.tmp 28) (.tmp 31) rfl w1.heap.size (.slice (some ⟨g3, 0, none⟩) (a + 1) c3) (l.take a ++ [(k : Int)]) rfl N.out _ (k - a) _ (l.drop a) rfl hdl (by intro hq; first | (cases hq; done) | (simp at hq; done) | (split at hq <;> simp at hq)) (cells_from (o := 0) (i := a) (c := co) hl hkc2 hcell (fun hq => by first | exact absurd hca hq | (simp; done) | rfl)) (by simp; omega) (by omega) ?_; intro v4 w4 hv4 hg4)
        have hNl := Lib.hid N.out.lt
        have R := Lib.hid (R.out.grown hg4 (fun e => by have := hNl.out _ e.symm; omega) (fun q hq => by have := hNl.out _ hq; omega))
        have G := Lib.hid (grown_high G.out hg4 (fun q hq => by have := hNl.out _ hq; omega))
        have h4l : ((l.take a ++ [(k : Int)]) ++ l.drop a).length = k + 1 := by rw [List.length_append, hdl, h3l]; omega
        obtain ⟨a4, c4, rfl, -⟩ := hv4.open
        obtain ⟨g4, ha4, _, _, _, _⟩ := hv4.at_ (j := 0) (by rw [h4l]; omega)
        subst ha4
        rw [h4l] at hv4
        try rw [h4l]
        go_roundg (n - (k+1))
        case rel => exact ⟨k+1, g4, c4, _, by omega, rfl, by go_num, rfl, h4l, Lib.hid (hv4.base (by omega)), R, G⟩
        case measure => have := Hk.out; omega
    · have hkn : k = n := by omega
      subst hkn
      go_wp2_with fail
      go_ret
      exact ⟨_, l, rfl, O.out, hl, R.out, G.out⟩
end Go.Proofs.Ytdfcjhcnojgkiaa
