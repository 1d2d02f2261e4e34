/- The readers of a law's code: what spec.l20Open, pick and odd give of any bytes. No condition but that the bytes can be read. -/
import Derived.Test.YtffcfambgcaikaaApp
import Derived.Deep.Cut
import Derived.Laws.BitsLemmas
namespace Go.Proofs.Ytffcfambgcaikaa
open Go.RowKit
set_option linter.unusedVariables false
set_option linter.unusedSimpArgs false
/-- A slice of bytes below block B. -/
def Byt (w : World) (B : Nat) (a : Option Addr) (n cap : Nat) : Prop := n ≤ cap ∧ cap ≤ 9223372036854775807 ∧
  ∀ j, j < n → ∃ b o z, a = some ⟨b, o, none⟩ ∧ b < B ∧ w.cell? ⟨b, o + j, none⟩ = some (.int .u8 z) ∧ 0 ≤ z ∧ z ≤ 255
theorem Byt.below {w w' : World} {B : Nat} {a : Option Addr} {n cap : Nat} (h : Byt w B a n cap) (hb : Below B w w') : Byt w' B a n cap := by
  obtain ⟨h1, h2, h3⟩ := h
  refine ⟨h1, h2, fun j hj => ?_⟩
  obtain ⟨b, o, z, rfl, hlt, hc, hz⟩ := h3 j hj
  exact ⟨b, o, z, rfl, hlt, (hb.cell (by exact hlt)).trans hc, hz⟩
/-- A reader at block g, over bytes below block B; at most m numbers were picked. -/
def Rd (w : World) (B g m : Nat) : Prop := B ≤ g ∧ ∃ (a : Option Addr) (n cap p : Nat), n ≤ 2000 ∧ p ≤ m ∧ Box w g 92 #[.slice a n cap, .int .i64 (p : Int)] ∧ Byt w B a n cap
theorem Rd.lt {w : World} {B g m : Nat} (h : Rd w B g m) : B ≤ g ∧ g < w.heap.size := by
  obtain ⟨hB, a, n, cap, p, hn, hp, hb, hy⟩ := h
  exact ⟨hB, hb.lt⟩
theorem Rd.keep {w w' : World} {B g m : Nat} (h : Rd w B g m) (h1 : Below B w w') (h2 : w'.heap[g]? = w.heap[g]?) : Rd w' B g m := by
  obtain ⟨hB, a, n, cap, p, hn, hp, hb, hy⟩ := h
  exact ⟨hB, a, n, cap, p, hn, hp, h2.trans hb, hy.below h1⟩
theorem Rd.ext {w w' : World} {B g m : Nat} (h : Rd w B g m) (hb : Below w.heap.size w w') : Rd w' B g m :=
  h.keep (hb.mono (by have := h.lt; omega)) (hb.block g h.lt.2)
theorem Rd.alloc {w : World} {B g m : Nat} (h : Rd w B g m) (o : Obj) : Rd (w.alloc o) B g m := h.ext (ext_alloc (ext_refl _) _)
theorem Rd.drew {w : World} {B g m : Nat} (h : Rd w B g m) : Rd w.drew B g m := h.ext (ext_drew (ext_refl _))
theorem Rd.set {w : World} {B g m : Nat} (h : Rd w B g m) {p : Addr} (hp : B ≤ p.block) (hg : g ≠ p.block) (u : Value) : Rd (w.setCell p u) B g m :=
  h.keep ((Below.refl B w).setCell hp u) (Below.heap_setCell w p u g hg)
theorem Rd.grown {w w' : World} {B g m : Nat} {row : Option Nat} (h : Rd w B g m) (hb : w.grownBy w' row) (hr : some g ≠ row) (hB : ∀ k, row = some k → B ≤ k) : Rd w' B g m :=
  h.keep ((Below.refl B w).grown hb (by have := h.lt; omega) hB) (hb.block g h.lt.2 hr)
theorem Rd.mono {w : World} {B g m m' : Nat} (h : Rd w B g m) (hm : m ≤ m') : Rd w B g m' := by
  obtain ⟨hB, a, n, cap, p, hn, hp, hb, hy⟩ := h
  exact ⟨hB, a, n, cap, p, hn, by omega, hb, hy⟩
set_option maxHeartbeats 1000000 in
theorem spec_l20Open (a : Option Addr) (n cap : Nat) (w : World) (B : Nat) (hB : B ≤ w.heap.size) (h : Byt w B a n cap) :
    Calls Try.prog 41 #[.slice a n cap] w fun e w' => e = .returned (.pointer (some ⟨w.heap.size, 0, none⟩)) ∧ Rd w' B w.heap.size 0 ∧ Below w.heap.size w w' := by
  have H := Lib.hid h
  obtain ⟨hn, hc, -⟩ := id h
  clear h
  by_cases hbig : 2000 < n
  · have h2 : ¬ (n : Int) ≤ 2000 := by omega
    go_enter Try.func41, Try.ntmps41
    go_wp2_with fail
    go_ret
    refine ⟨rfl, ⟨hB, a, 2000, cap, 0, by omega, by omega, Box.new _ _ _, ?_⟩, ext_alloc (ext_refl _) _⟩
    obtain ⟨g1, g2, g3⟩ := H.out.below ((Below.refl B w).alloc hB _)
    exact ⟨by omega, g2, fun j hj => g3 j (by omega)⟩
  · go_enter Try.func41, Try.ntmps41
    go_wp2_with fail
    go_ret
    exact ⟨rfl, ⟨hB, a, n, cap, 0, by omega, by omega, Box.new _ _ _, H.out.below ((Below.refl B w).alloc hB _)⟩, ext_alloc (ext_refl _) _⟩
theorem grown_drewN {w w1 : World} {row : Option Nat} (h : w.grownBy w1 row) (n : Nat) : w.grownBy (w1.drewN n) row := ⟨h.os, h.tape, h.output, h.size, h.block⟩
theorem Rd.drewN {w : World} {B g m : Nat} (h : Rd w B g m) (n : Nat) : Rd (w.drewN n) B g m := h.keep ⟨rfl, rfl, rfl, Nat.le_refl _, fun _ _ => rfl⟩ rfl
theorem xor_pos (v : Int) (h0 : 0 ≤ v) (h1 : v ≤ 1000000000) : 0 ≤ bits BinOp.xor IntKind.i64 v (v / 64) := by
  obtain ⟨a, rfl⟩ := Int.eq_ofNat_of_zero_le h0
  have ha : a ≤ 1000000000 := by omega
  have d : ((a : Int) / 64) = ((a / 64 : Nat) : Int) := by omega
  rw [d]
  have hx : a ^^^ (a / 64) < 2 ^ 62 := Nat.xor_lt_two_pow (by omega) (by omega)
  have h1 : (BitVec.ofInt 64 (a : Int)).toNat = a := by
    rw [BitVec.ofInt_natCast, BitVec.toNat_ofNat]; exact Nat.mod_eq_of_lt (by omega)
  have h2 : (BitVec.ofInt 64 ((a / 64 : Nat) : Int)).toNat = a / 64 := by
    rw [BitVec.ofInt_natCast, BitVec.toNat_ofNat]; exact Nat.mod_eq_of_lt (by omega)
  show 0 ≤ IntKind.i64.wrap ((BitVec.ofInt 64 (a : Int) ^^^ BitVec.ofInt 64 ((a / 64 : Nat) : Int)).toNat : Int)
  rw [BitVec.toNat_xor, h1, h2, IntKind.wrap_i64]
  omega
theorem grown_one (w : World) (g i : Nat) (u : Value) : w.grownBy (w.setCell ⟨g, i, none⟩ u) (some g) := grown_set (World.grownBy.refl w _) u
set_option maxHeartbeats 2000000 in
theorem spec_pick (B g m : Nat) (n : Int) (w : World) (h : Rd w B g m) (hm : m ≤ 1000000) :
    Calls Try.prog 73 #[.pointer (some ⟨g, 0, none⟩), .int .i64 n] w fun e w' => ∃ x, e = .returned (.int .i64 x) ∧ 0 ≤ x ∧ (x < n ∨ n < 1 ∧ x = 0) ∧ Rd w' B g (m+1) ∧ w.grownBy w' (some g) ∧ w'.heap.size = w.heap.size := by
  obtain ⟨hB, a, k, cap, p, hk, hp, hb, hy⟩ := h
  obtain ⟨hc1, hc2, hby⟩ := id hy
  obtain ⟨c, z⟩ := hb.rules
  have hg := hb.lt
  have B2 : Box (w.setCell ⟨g, 1, none⟩ (.int .i64 ((p:Int)+1))) g 92 #[.slice a k cap, .int .i64 ((p:Int)+1)] := hb.set 1 _
  have Y2 := hy.below ((Below.refl B w).setCell (p := ⟨g, 1, none⟩) (by simpa using hB) (.int .i64 ((p:Int)+1)))
  have R2 : Rd (w.setCell ⟨g, 1, none⟩ (.int .i64 ((p:Int)+1))) B g (m+1) := ⟨hB, a, k, cap, p+1, hk, by omega, by simpa using B2, Y2⟩
  have R2 := Lib.hid R2
  have G := Lib.hid (grown_one w g 1 (.int .i64 ((p:Int)+1)))
  have S := Lib.hid (show (w.setCell ⟨g, 1, none⟩ (.int .i64 ((p:Int)+1))).heap.size = w.heap.size by simp [World.setCell])
  have Y2 := Lib.hid hy
  clear B2 hy hby
  by_cases hn : n < 1
  · go_enter Try.func73, Try.ntmps73
    go_wp2_with fail
    go_ret
    exact ⟨0, rfl, by omega, .inr ⟨hn, rfl⟩, R2.out, G.out, S.out⟩
  · by_cases hk0 : k = 0
    · subst hk0
      go_enter Try.func73, Try.ntmps73
      go_wp2_with fail
      go_ret
      exact ⟨0, rfl, by omega, .inl (by omega), R2.out, G.out, S.out⟩
    · obtain ⟨b, o, -, rfl, -⟩ := Y2.out.2.2 0 (by omega)
      by_cases hpk : p < k
      · obtain ⟨_, _, x, he, hb0, cx, hx0, hx1⟩ := Y2.out.2.2 p hpk
        cases he
        go_enter Try.func73, Try.ntmps73
        go_wp2_with fail
        go_ret
        refine ⟨_, rfl, ?_, .inl ?_, R2.out, G.out, S.out⟩
        · exact Int.emod_nonneg _ (by omega)
        · exact Int.emod_lt_of_pos _ (by omega)
      · have hl0 : (0:Int) < k := by omega
        have q1 : 0 ≤ (p:Int) % (k:Int) := Int.emod_nonneg _ (by omega)
        have q2 : (p:Int) % (k:Int) < k := Int.emod_lt_of_pos _ hl0
        have q3 : 0 ≤ ((p:Int) * 7 + 3) % (k:Int) := Int.emod_nonneg _ (by omega)
        have q4 : ((p:Int) * 7 + 3) % (k:Int) < k := Int.emod_lt_of_pos _ hl0
        have t1 : ((p:Int)).tmod k = (p:Int) % k := Int.tmod_eq_emod_of_nonneg (by omega)
        have t2 : ((p:Int) * 7 + 3).tmod k = ((p:Int) * 7 + 3) % k := Int.tmod_eq_emod_of_nonneg (by omega)
        have t3 : ((p:Int)).tdiv k = (p:Int) / k := Int.tdiv_eq_ediv_of_nonneg (by omega)
        have t4 : 0 ≤ (p:Int) / k := Int.ediv_nonneg (by omega) (by omega)
        have t5 : (p:Int) / k ≤ p := Int.ediv_le_self _ (by omega)
        obtain ⟨_, _, x, he, hb0, cx, hx0, hx1⟩ := Y2.out.2.2 (p % k) (Nat.mod_lt _ (by omega))
        cases he
        obtain ⟨_, _, y, he, hb1, cy, hy0, hy1⟩ := Y2.out.2.2 ((p * 7 + 3) % k) (Nat.mod_lt _ (by omega))
        cases he
        go_enter Try.func73, Try.ntmps73
        go_upto_region 7 with fail
        go_quiet (fail)
        have G2 := Lib.hid (grown_drewN G.out nq)
        have R3 := Lib.hid (R2.out.drewN nq)
        have S3 := Lib.hid (show ((w.setCell ⟨g, 1, none⟩ (.int .i64 ((p:Int)+1))).drewN nq).heap.size = w.heap.size from S.out)
        clear R2 G S
        generalize hv : x * 131 + y * 1117 + (p:Int) * 29 + (p:Int) / (k:Int) * 53 = v
        have hv0 : 0 ≤ v ∧ v ≤ 1000000000 := by omega
        clear hv
        go_wp2_with fail
        have hx := xor_pos v hv0.1 hv0.2
        have e : (bits BinOp.xor IntKind.i64 v (v / 64)).tmod n = bits BinOp.xor IntKind.i64 v (v / 64) % n := Int.tmod_eq_emod_of_nonneg hx
        rw [e]
        go_ret
        exact ⟨_, rfl, Int.emod_nonneg _ (by omega), .inl (Int.emod_lt_of_pos _ (by omega)), R3.out, G2.out, S3.out⟩
set_option maxHeartbeats 1000000 in
theorem spec_odd (B g m : Nat) (n : Int) (w : World) (h : Rd w B g m) (hm : m ≤ 1000000) (hn : 0 ≤ n) :
    Calls Try.prog 74 #[.pointer (some ⟨g, 0, none⟩), .int .i64 n] w fun e w' => ∃ x : Bool, e = .returned (.bool x) ∧ Rd w' B g (m+1) ∧ w.grownBy w' (some g) ∧ w'.heap.size = w.heap.size := by
  by_cases h0 : 0 < n
  · go_enter Try.func74, Try.ntmps74
    go_wp2_with fail
    refine (spec_pick B g m n _ h hm).mono ?_
    rintro e w' ⟨x, rfl, hx0, hx1, R, G, S⟩
    by_cases hx : x = n - 1
    · go_wp2
      go_ret
      exact ⟨_, rfl, R, G, S⟩
    · go_wp2
      go_ret
      exact ⟨_, rfl, R, G, S⟩
  · go_enter Try.func74, Try.ntmps74
    go_wp2
    go_ret
    exact ⟨.inl rfl, h.mono (by omega), World.grownBy.refl _ _, rfl⟩
theorem grown_trans' {w w1 w2 : World} {row : Option Nat} (h : w.grownBy w1 row) (h2 : w1.grownBy w2 row) : w.grownBy w2 row :=
  ⟨h2.os.trans h.os, h2.tape.trans h.tape, h2.output.trans h.output, Nat.le_trans h.size h2.size, fun k hk hne => (h2.block k (Nat.lt_of_lt_of_le hk h.size) hne).trans (h.block k hk hne)⟩
theorem grown_of_ext {w w1 : World} (row : Option Nat) (h : Below w.heap.size w w1) : w.grownBy w1 row := ⟨h.os, h.tape, h.output, h.size, fun k hk _ => h.block k hk⟩
theorem grown_drew' {w w1 : World} {row : Option Nat} (h : w.grownBy w1 row) : w.grownBy w1.drew row := ⟨h.os, h.tape, h.output, h.size, h.block⟩
theorem grown_ext' {w w1 w2 : World} {row : Option Nat} (h : w.grownBy w1 row) (h2 : Below w1.heap.size w1 w2) : w.grownBy w2 row := grown_trans' h (grown_of_ext row h2)
theorem grown_alloc' {w w1 : World} {row : Option Nat} (h : w.grownBy w1 row) (o : Obj) : w.grownBy (w1.alloc o) row := grown_ext' h (ext_alloc (ext_refl _) o)
/-- what grows above all that was there -/
theorem grown_high {w w1 w2 : World} {row row2 : Option Nat} (h : w.grownBy w1 row) (h2 : w1.grownBy w2 row2) (hr : ∀ k, row2 = some k → w.heap.size ≤ k) : w.grownBy w2 row :=
  ⟨h2.os.trans h.os, h2.tape.trans h.tape, h2.output.trans h.output, Nat.le_trans h.size h2.size, fun k hk hne => (h2.block k (Nat.lt_of_lt_of_le hk h.size) (fun e => by have := hr k e.symm; omega)).trans (h.block k hk hne)⟩
theorem grown_set' {w w1 : World} {row : Option Nat} (h : w.grownBy w1 row) {k i : Nat} (hp : w.heap.size ≤ k) (u : Value) : w.grownBy (w1.setCell ⟨k, i, none⟩ u) row :=
  grown_high h (grown_set (World.grownBy.refl w1 (some k)) u) (fun j hj => by cases hj; exact hp)
theorem Box.near {w w' : World} {p g : Nat} {t : TypeId} {xs : Array Value} (h : Box w p t xs) (hg : w.grownBy w' (some g)) (hne : g < p) : Box w' p t xs := h.grown hg (fun e => by cases e; omega)
theorem own_near {w w' : World} {base g : Nat} {e : TypeId} {size : Nat} {v : Value} {n : Nat} {xs : List Value} (h : w.ownsRow base e size v n xs) (hg : w.grownBy w' (some g)) (hne : g < base) : w'.ownsRow base e size v n xs :=
  own_far h hg fun k hk e => by have := (own_lt h k hk).1; cases e; omega
theorem Ints.cellAt {w : World} {base n cap gb : Nat} {l : List Int} (h : Ints w base (.slice (some ⟨gb, 0, none⟩) n cap) l) (j : Nat) (hj : j < l.length) : w.cell? ⟨gb, j, none⟩ = some (.int .i64 (l.getD j 0)) := by
  obtain ⟨g, he, _, _, _, hc⟩ := h.at_ hj
  cases he
  exact hc
theorem Ints.near {w w' : World} {base g : Nat} {v : Value} {l : List Int} (h : Ints w base v l) (hg : w.grownBy w' (some g)) (hne : g < base) : Ints w' base v l := own_near h hg hne
theorem Bds.near {w w' : World} {base g : Nat} {v : Value} {l : List Bd} (h : Bds w base v l) (hg : w.grownBy w' (some g)) (hne : g < base) : Bds w' base v l := own_near h hg hne
end Go.Proofs.Ytffcfambgcaikaa
