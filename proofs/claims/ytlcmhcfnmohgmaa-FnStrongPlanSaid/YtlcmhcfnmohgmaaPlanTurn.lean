/- The walks of impl.TurnedPlan and spec.TurnedPlan: both return the plan 'Pl.turned', in new memory. Conditions: the bounds can be read, and are at most two million. -/
import Derived.Test.YtlcmhcfnmohgmaaPlanMk
import Derived.Test.YtlcmhcfnmohgmaaTail
namespace Go.Proofs.Ytlcmhcfnmohgmaa
open Go.RowKit
set_option linter.unusedVariables false
set_option linter.unusedSimpArgs false
theorem mid_length {α : Type} (l : List α) (f : α → α) (j : Nat) (h : j ≤ l.length) : ((l.take j).map f ++ l.drop j).length = l.length := by
  rw [List.length_append, List.length_map, List.length_take, List.length_drop]; omega
theorem mid_getD {α : Type} (l : List α) (f : α → α) (j : Nat) (d : α) (h : j < l.length) : ((l.take j).map f ++ l.drop j).getD j d = l.getD j d := by
  have e : ((l.take j).map f).length = j := by rw [List.length_map, List.length_take]; omega
  rw [List.getD_eq_getElem?_getD, List.getElem?_append_right (by omega), e, List.getElem?_drop, List.getD_eq_getElem?_getD]; simp
theorem mid_set {α : Type} (l : List α) (f : α → α) (j : Nat) (d : α) (h : j < l.length) : ((l.take j).map f ++ l.drop j).set j (f (l.getD j d)) = (l.take (j+1)).map f ++ l.drop (j+1) := by
  have e : ((l.take j).map f).length = j := by rw [List.length_map, List.length_take]; omega
  rw [List.set_append_right _ _ (by omega), e, Nat.sub_self, List.drop_eq_getElem_cons h, List.set_cons_zero, List.take_add_one, List.map_append, List.append_assoc, getD_of l j d h]
  rfl
def Bd.turn (b : Bd) : Bd := ⟨b.t, b.f, b.m⟩
def Pl.turned (p : Pl) : Pl := if p.ok then ⟨p.pts, p.bs.map Bd.turn⟩ else Pl.zero
set_option maxRecDepth 100000 in
set_option maxHeartbeats 1000000 in
theorem impl_TurnedPlan (p : Pl) (bs : Value) (w : World) (hv : Bds w 0 bs p.bs) (hlen : p.bs.length ≤ 2000000) :
    Calls Try.prog 17 #[.agg #[.int .i64 p.pts, bs]] w (RetPlan w p.turned) := by
  have Hv := Lib.hid hv
  obtain ⟨a, cap, rfl, hn, hc, -⟩ := hv.open
  clear hv
  go_enter Try.func17, Try.ntmps17
  go_wp2_with fail
  obtain ⟨W, hW, B0, B1, hs, HB⟩ := two_boxes w #[Value.int IntKind.i64 p.pts, Value.slice a p.bs.length cap] #[.int .i64 0, .slice none 0 0] 25 25
  rw [← hW.out]
  have Hs := Lib.hid hs
  clear hs
  refine (impl_PlanOk p _ _ (Hv.out.ext HB)).mono ?_
  rintro e w1 ⟨rfl, hb1⟩
  have B0' := B0.ext hb1
  have B1' := B1.ext hb1
  obtain ⟨c0, z0⟩ := B0'.rules
  obtain ⟨c1, z1⟩ := B1'.rules
  by_cases hok : p.ok = true
  · rw [hok]
    go_wp2_with fail
    refine (impl_clone p _ _ (Hv.out.ext (ext_trans HB hb1)) hlen).mono ?_
    rintro e w2 ⟨v2, rfl, hv2, hb2⟩
    obtain ⟨a2, cap2, rfl, -⟩ := hv2.open
    obtain ⟨d0, y0⟩ := (B0'.ext hb2).rules
    obtain ⟨d1, y1⟩ := (B1'.ext hb2).rules
    have Hv2 := Lib.hid hv2
    clear hv2 c0 c1 z0 z1
    go_wp2_with fail
    have B2 := Box.new w2 25 #[.int .i64 p.pts, .slice a2 p.bs.length cap2]
    have hz1 := hb1.size
    have hz2 := hb2.size
    have hs := Hs.out
    have HA : Hid (∀ g, a2 = some ⟨g, 0, none⟩ → g < w2.heap.size) := fun g h => by subst h; exact (Hv2.out.lt g rfl).2
    go_loopg [4, 5, 15] p.bs.length (fun n i b k wr => ∃ j : Nat, j ≤ p.bs.length ∧ n = p.bs.length - j ∧ k = .int .i64 j ∧
      Bds wr w1.heap.size (.slice a2 p.bs.length cap2) ((p.bs.take j).map Bd.turn ++ p.bs.drop j) ∧ Box wr w2.heap.size 25 #[.int .i64 p.pts, .slice a2 p.bs.length cap2] ∧ Box wr (w.heap.size + 1) 25 #[.int .i64 0, .slice none 0 0] ∧
      Below w.heap.size w wr)
    case atStart => exact ⟨0, by omega, by omega, rfl, by simpa using Hv2.out.alloc _, B2, (B1'.ext hb2).alloc _, ext_alloc (ext_trans (ext_trans HB hb1) hb2) _⟩
    case round =>
      obtain ⟨j, hj, hgk, rfl, hbd, hB2, hB1, hbel⟩ := hrel
      obtain ⟨c2, z2⟩ := hB2.rules
      obtain ⟨c1, z1⟩ := hB1.rules
      have Hk := Lib.hid hgk; have Hbd := Lib.hid hbd; have Hs2 := Lib.hid hs
      clear hgk hbd d0 d1 y0 y1 hs
      by_cases hlt : j < p.bs.length
      · have Hl2 := Lib.hid (mid_length p.bs Bd.turn j hj)
        obtain ⟨g, rfl, hg0, hg, hfz, k0, k1, k2⟩ := Hbd.out.at_ (j := j) (by have := Hl2.out; omega)
        rw [mid_getD _ _ _ _ hlt] at k0 k1 k2
        have Hb := Lib.hid (mid_set p.bs Bd.turn j Bd.z hlt)
        generalize p.bs.getD j Bd.z = b at *
        have l1 := hB1.lt; have l2 := hB2.lt
        have hg2 := HA.out g rfl
        go_wp2_with fail
        go_roundg (p.bs.length - (j+1))
        case rel =>
          have := Hs2.out
          refine ⟨j+1, by omega, rfl, by go_num, ?_, (((hB2.far (by simp; omega) _).far (by simp; omega) _).far (by simp; omega) _).alloc _, (((hB1.far (by simp; omega) _).far (by simp; omega) _).far (by simp; omega) _).alloc _,
            ext_alloc (ext_set (ext_set (ext_set hbel (by simp; omega) _) (by simp; omega) _) (by simp; omega) _) _⟩
          rw [← Hb.out]
          exact (Hbd.out.set (by have := Hl2.out; omega) b.turn).alloc _
        case measure => have := Hk.out; omega
      · have hjl : j = p.bs.length := by omega
        have Hjl := Lib.hid hjl
        clear hjl
        have l1 := hB1.lt; have l2 := hB2.lt
        go_wp2
        refine bodyPost_ret (v := .agg #[.int .i64 p.pts, .slice a2 p.bs.length cap2]) (by simp [results, Try.results17, go_sem, *]) rfl ?_
        rw [show p.turned = ⟨p.pts, p.bs.map Bd.turn⟩ from if_pos hok]
        have hb := Hbd.out
        rw [Hjl.out, List.take_length, List.drop_length, List.append_nil] at hb
        have := Hs2.out
        exact ⟨_, rfl, own_base (own_low (own_low hb (by simp; omega) _) (by simp; omega) _) (by omega), ext_set (ext_set hbel (by simp) _) (by simp) _⟩
  · simp only [Bool.not_eq_true] at hok
    rw [hok]
    go_wp2
    refine bodyPost_ret (v := .agg #[.int .i64 0, .slice none 0 0]) (by simp [results, Try.results17, go_sem, *]) rfl ?_
    rw [show p.turned = Pl.zero from if_neg (by simp [hok])]
    exact ⟨_, rfl, Bds.nil _ _, ext_set (ext_set (ext_trans HB hb1) (by simp) _) (by simp) _⟩
theorem take_map_next {α β : Type} (l : List α) (f : α → β) (j : Nat) (b : α) (h : l[j]? = some b) : (l.take (j+1)).map f = (l.take j).map f ++ [f b] := by
  rw [List.take_add_one, h]; simp
theorem cell_alloc {w : World} {b o : Nat} (h : b < w.heap.size) (x : Obj) : (w.alloc x).cell? ⟨b, o, none⟩ = w.cell? ⟨b, o, none⟩ := World.cell?_alloc_lt _ _ _ h
theorem lenOwn {w : World} {base : Nat} {v : Value} {l : List Bd} {n : Nat} (h : Bds w base v l) (hn : l.length = n) : w.ownsRow base 48 3 v n (bcells l) := by subst hn; exact h
end Go.Proofs.Ytlcmhcfnmohgmaa
