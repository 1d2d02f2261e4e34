/- Plain facts on rows of memory, shared by all walks of this seat: what a slice of numbers or of bounds reads as, what stays as it was, an append. No condition. -/
import Derived.Test.YtffcfambgcaikaaProg
import Derived.WalkKit
import Derived.Lib.Hide
import Derived.Deep.QuietTactic
import Derived.BigQuiet
import Derived.Deep.LoopGhost
import Derived.Deep.AppendLies
import Derived.Deep.RegionHeld3
namespace Go.Proofs.Ytffcfambgcaikaa
open Go.RowKit

/-! ### worlds -/
theorem ext_refl (w : World) : Below w.heap.size w w := Below.refl _ _
theorem ext_trans {w w1 w2 : World} (h : Below w.heap.size w w1) (h2 : Below w1.heap.size w1 w2) : Below w.heap.size w w2 := h.trans (h2.mono h.size)
theorem ext_alloc {w w1 : World} (h : Below w.heap.size w w1) (o : Obj) : Below w.heap.size w (w1.alloc o) := h.alloc h.size o
theorem ext_drew {w w1 : World} (h : Below w.heap.size w w1) : Below w.heap.size w w1.drew := h.drew
theorem ext_set {w w1 : World} (h : Below w.heap.size w w1) {p : Addr} (hp : w.heap.size ≤ p.block) (u : Value) : Below w.heap.size w (w1.setCell p u) := h.setCell hp u
theorem ext_grown {w w1 w2 : World} (h : Below w.heap.size w w1) {row : Option Nat} (hg : w1.grownBy w2 row) (hr : ∀ k, row = some k → w.heap.size ≤ k) : Below w.heap.size w w2 := h.grown hg h.size hr
theorem grown_set {w w1 : World} {g i : Nat} (h : w.grownBy w1 (some g)) (u : Value) : w.grownBy (w1.setCell ⟨g, i, none⟩ u) (some g) :=
  ⟨h.os, h.tape, h.output, by simpa [World.setCell] using h.size, fun k hk hne => (Below.heap_setCell w1 ⟨g, i, none⟩ u k (fun e => hne (by rw [e]))).trans (h.block k hk hne)⟩
theorem bcell {W w1 : World} (hb : Below W.heap.size W w1) :
    (∀ b o, b < W.heap.size → w1.cell? ⟨b, o, none⟩ = W.cell? ⟨b, o, none⟩) ∧ (∀ b o, b < W.heap.size → w1.frozen? ⟨b, o, none⟩ = W.frozen? ⟨b, o, none⟩) ∧ W.heap.size ≤ w1.heap.size :=
  ⟨fun b o h => hb.cell (p := ⟨b, o, none⟩) h, fun b o h => hb.frozen (p := ⟨b, o, none⟩) h, hb.size⟩

theorem add_plain (b o i : Nat) : (⟨b, o, none⟩ : Addr).add i = ⟨b, o + i, none⟩ := by
  unfold Addr.add; split <;> simp_all

/-! ### rows -/
theorem own_lt {w : World} {base : Nat} {e : TypeId} {size : Nat} {v : Value} {n : Nat} {xs : List Value} (h : w.ownsRow base e size v n xs) : ∀ k, v.ownBlock = some k → base ≤ k ∧ k < w.heap.size := h.lt
theorem own_below {w w' : World} {B base : Nat} {e : TypeId} {size : Nat} {v : Value} {n : Nat} {xs : List Value} (h : w.ownsRow base e size v n xs) (hb : Below B w w')
    (hB : ∀ k, v.ownBlock = some k → k < B) : w'.ownsRow base e size v n xs := by
  obtain ⟨hl, h⟩ := h
  refine ⟨hl, ?_⟩
  rcases h with ⟨rfl, rfl⟩ | ⟨g, cap, cur, rfl, hg, hh, hn, hc, hs, rfl⟩
  · exact .inl ⟨rfl, rfl⟩
  · exact .inr ⟨g, cap, cur, rfl, hg, by rw [hb.block g (hB g rfl)]; exact hh, hn, hc, hs, rfl⟩
theorem own_ext {w w' : World} {base : Nat} {e : TypeId} {size : Nat} {v : Value} {n : Nat} {xs : List Value} (h : w.ownsRow base e size v n xs) (hb : Below w.heap.size w w') : w'.ownsRow base e size v n xs :=
  own_below h hb fun k hk => (own_lt h k hk).2
theorem own_base {w : World} {base base' : Nat} {e : TypeId} {size : Nat} {v : Value} {n : Nat} {xs : List Value} (h : w.ownsRow base e size v n xs) (hb : base' ≤ base) : w.ownsRow base' e size v n xs := by
  obtain ⟨hl, h⟩ := h
  refine ⟨hl, ?_⟩
  rcases h with ⟨rfl, rfl⟩ | ⟨g, cap, cur, rfl, hg, hh, hn, hc, hs, rfl⟩
  · exact .inl ⟨rfl, rfl⟩
  · exact .inr ⟨g, cap, cur, rfl, by omega, hh, hn, hc, hs, rfl⟩
/-- A row of another block stays over a write into the block of 'u'. -/
theorem own_far {w w' : World} {base : Nat} {e : TypeId} {size : Nat} {v : Value} {n : Nat} {xs : List Value} {row : Option Nat} (h : w.ownsRow base e size v n xs) (hg : w.grownBy w' row)
    (hne : ∀ k, v.ownBlock = some k → row ≠ some k) : w'.ownsRow base e size v n xs := by
  refine h.kept hg ?_
  cases hb : v.ownBlock with
  | none => exact .inl rfl
  | some k => exact .inr fun e => hne k hb e.symm

theorem own_open {w : World} {base : Nat} {e : TypeId} {size : Nat} {v : Value} {n : Nat} {xs : List Value} (h : w.ownsRow base e size v n xs) :
    ∃ a cap, v = .slice a n cap ∧ n ≤ cap ∧ cap ≤ 9223372036854775807 ∧ ∀ i, i < n * size → ∃ g, a = some ⟨g, 0, none⟩ ∧ base ≤ g ∧ g < w.heap.size ∧ (∀ j, w.frozen? ⟨g, j, none⟩ = false) ∧ ∀ j, j < n * size → w.cell? ⟨g, j, none⟩ = xs[j]? := by
  obtain ⟨hl, h⟩ := h
  rcases h with ⟨rfl, rfl⟩ | ⟨g, cap, cur, rfl, hg, hh, hn, hc, hs, rfl⟩
  · exact ⟨none, 0, rfl, Nat.le_refl _, Nat.zero_le _, fun i hi => by omega⟩
  · have hlt : g < w.heap.size := by
      rcases Nat.lt_or_ge g w.heap.size with h | h
      · exact h
      · simp [Array.getElem?_eq_none h] at hh
    refine ⟨_, cap, rfl, hn, hc, fun i hi => ⟨g, rfl, hg, hlt, fun j => by simp [World.frozen?, hh], fun j hj => ?_⟩⟩
    simp [World.cell?, hh, hj]

/-! ### a block of the call's own, known whole -/
def Box (w : World) (g : Nat) (t : TypeId) (xs : Array Value) : Prop := w.heap[g]? = some (.cells xs t (0, 0))
theorem Box.lt {w : World} {g : Nat} {t : TypeId} {xs : Array Value} (h : Box w g t xs) : g < w.heap.size := by
  rcases Nat.lt_or_ge g w.heap.size with h' | h'
  · exact h'
  · simp [Box, Array.getElem?_eq_none h'] at h
theorem Box.rules {w : World} {g : Nat} {t : TypeId} {xs : Array Value} (h : Box w g t xs) : (∀ o, w.cell? ⟨g, o, none⟩ = xs[o]?) ∧ (∀ o, w.frozen? ⟨g, o, none⟩ = false) := by
  unfold Box at h
  exact ⟨fun o => by simp [World.cell?, h], fun o => by simp [World.frozen?, h]⟩
theorem Box.new (w : World) (t : TypeId) (xs : Array Value) : Box (w.alloc (.cells xs t)) w.heap.size t xs := heap_alloc_new w _
theorem Box.alloc {w : World} {g : Nat} {t : TypeId} {xs : Array Value} (h : Box w g t xs) (o : Obj) : Box (w.alloc o) g t xs := (Below.heap_alloc w o g h.lt).trans h
theorem Box.drew {w : World} {g : Nat} {t : TypeId} {xs : Array Value} (h : Box w g t xs) : Box w.drew g t xs := h
theorem Box.set {w : World} {g : Nat} {t : TypeId} {xs : Array Value} (h : Box w g t xs) (i : Nat) (u : Value) : Box (w.setCell ⟨g, i, none⟩ u) g t (xs.setIfInBounds i u) := by
  unfold Box at *
  simp [World.setCell, Array.getElem?_modify, h]
theorem Box.far {w : World} {g : Nat} {t : TypeId} {xs : Array Value} (h : Box w g t xs) {p : Addr} (hp : g ≠ p.block) (u : Value) : Box (w.setCell p u) g t xs := (Below.heap_setCell w p u g hp).trans h
theorem Box.ext {w w' : World} {g : Nat} {t : TypeId} {xs : Array Value} (h : Box w g t xs) (hb : Below w.heap.size w w') : Box w' g t xs := (hb.block g h.lt).trans h
theorem Box.grown {w w' : World} {g : Nat} {t : TypeId} {xs : Array Value} {row : Option Nat} (h : Box w g t xs) (hb : w.grownBy w' row) (hr : some g ≠ row) : Box w' g t xs := (hb.block g h.lt hr).trans h
theorem Box.cell2 {w : World} {g : Nat} {t : TypeId} {xs : Array Value} (h : Box w g t xs) {o : Nat} {x : Value} {p p' : Addr} {u u' : Value} (hx : xs[o]? = some x) (hp : g ≠ p.block) (hp' : g ≠ p'.block) : ((w.setCell p u).setCell p' u').cell? ⟨g, o, none⟩ = some x :=
  (((h.far hp u).far hp' u').rules.1 o).trans hx
theorem Box.cell0 {w : World} {g : Nat} {t : TypeId} {xs : Array Value} (h : Box w g t xs) {o : Nat} {x : Value} (hx : xs[o]? = some x) : w.cell? ⟨g, o, none⟩ = some x := (h.rules.1 o).trans hx
theorem one_box (w : World) (x : Array Value) (t : TypeId) : ∃ W, Hid (W = w.alloc (.cells x t)) ∧ Box W w.heap.size t x ∧ w.heap.size + 1 ≤ W.heap.size ∧ Below w.heap.size w W :=
  ⟨_, rfl, Box.new _ _ _, by simp, ext_alloc (ext_refl _) _⟩
theorem two_boxes (w : World) (x y : Array Value) (t t' : TypeId) : ∃ W, Hid (W = (w.alloc (.cells x t)).alloc (.cells y t')) ∧ Box W w.heap.size t x ∧ Box W (w.heap.size + 1) t' y ∧ w.heap.size + 2 ≤ W.heap.size ∧ Below w.heap.size w W :=
  ⟨_, rfl, (Box.new _ _ _).alloc _, by have := Box.new (w.alloc (.cells x t)) t' y; simpa using this, by simp, ext_alloc (ext_alloc (ext_refl _) _) _⟩
theorem three_boxes (w : World) (x y z : Array Value) (t t' t'' : TypeId) : ∃ W, Hid (W = ((w.alloc (.cells x t)).alloc (.cells y t')).alloc (.cells z t'')) ∧ Box W w.heap.size t x ∧ Box W (w.heap.size + 1) t' y ∧ Box W (w.heap.size + 1 + 1) t'' z ∧ w.heap.size + 3 ≤ W.heap.size ∧ Below w.heap.size w W :=
  ⟨_, rfl, ((Box.new _ _ _).alloc _).alloc _, by have := (Box.new (w.alloc (.cells x t)) t' y).alloc (.cells z t''); simpa using this, by have := Box.new ((w.alloc (.cells x t)).alloc (.cells y t')) t'' z; simpa using this, by simp, ext_alloc (ext_alloc (ext_alloc (ext_refl _) _) _) _⟩
/-- A row above block B stays over a store below B. -/
theorem own_low {w : World} {base : Nat} {e : TypeId} {size : Nat} {v : Value} {n : Nat} {xs : List Value} (h : w.ownsRow base e size v n xs) {p : Addr} (hp : p.block < base) (u : Value) : (w.setCell p u).ownsRow base e size v n xs :=
  ownsRow_setCell_below h hp u
/-- A row below block B stays over a store from B on. -/
theorem own_high {w : World} {base B : Nat} {e : TypeId} {size : Nat} {v : Value} {n : Nat} {xs : List Value} (h : w.ownsRow base e size v n xs) (hB : ∀ k, v.ownBlock = some k → k < B) {p : Addr} (hp : B ≤ p.block) (u : Value) : (w.setCell p u).ownsRow base e size v n xs :=
  own_below h ((Below.refl B w).setCell hp u) hB

/-! ### rows of numbers -/
def Ints (w : World) (base : Nat) (v : Value) (l : List Int) : Prop := w.ownsRow base 3 1 v l.length (l.map (Value.int .i64))
theorem Ints.open {w : World} {base : Nat} {v : Value} {l : List Int} (h : Ints w base v l) :
    ∃ a cap, v = .slice a l.length cap ∧ l.length ≤ cap ∧ cap ≤ 9223372036854775807 ∧
      ∀ i, i < l.length → ∃ g, a = some ⟨g, 0, none⟩ ∧ base ≤ g ∧ g < w.heap.size ∧ (∀ j, w.frozen? ⟨g, j, none⟩ = false) ∧ ∀ j, j < l.length → w.cell? ⟨g, j, none⟩ = some (.int .i64 (l.getD j 0)) := by
  obtain ⟨a, cap, rfl, h1, h2, h3⟩ := own_open h
  refine ⟨a, cap, rfl, h1, h2, fun i hi => ?_⟩
  obtain ⟨g, rfl, h4, h5, h6, h7⟩ := h3 i (by omega)
  refine ⟨g, rfl, h4, h5, h6, fun j hj => ?_⟩
  rw [h7 j (by omega)]
  simp [hj]
theorem Ints.at_ {w : World} {base n cap : Nat} {a : Option Addr} {l : List Int} (h : Ints w base (.slice a n cap) l) {j : Nat} (hj : j < l.length) :
    ∃ g, a = some ⟨g, 0, none⟩ ∧ base ≤ g ∧ g < w.heap.size ∧ (∀ i, w.frozen? ⟨g, i, none⟩ = false) ∧ w.cell? ⟨g, j, none⟩ = some (.int .i64 (l.getD j 0)) := by
  obtain ⟨a', cap', he, h1, h2, h3⟩ := h.open
  cases he
  obtain ⟨g, rfl, h4, h5, h6, h7⟩ := h3 j hj
  exact ⟨g, rfl, h4, h5, h6, h7 j hj⟩
theorem Ints.set {w : World} {base n g cap : Nat} {l : List Int} (h : Ints w base (.slice (some ⟨g, 0, none⟩) n cap) l) (j : Nat) (x : Int) :
    Ints (w.setCell ⟨g, j, none⟩ (.int .i64 x)) base (.slice (some ⟨g, 0, none⟩) n cap) (l.set j x) := by
  obtain ⟨a', cap', he, -⟩ := h.open
  cases he
  unfold Ints at *
  rw [List.length_set, List.map_set]
  exact (h.stored _ _).1
theorem Ints.alloc {w : World} {base : Nat} {v : Value} {l : List Int} (h : Ints w base v l) (o : Obj) : Ints (w.alloc o) base v l := World.ownsRow.alloc h o
theorem Ints.drew {w : World} {base : Nat} {v : Value} {l : List Int} (h : Ints w base v l) : Ints w.drew base v l := h
theorem Ints.ext {w w' : World} {base : Nat} {v : Value} {l : List Int} (h : Ints w base v l) (hb : Below w.heap.size w w') : Ints w' base v l := own_ext h hb
theorem Ints.base {w : World} {base base' : Nat} {v : Value} {l : List Int} (h : Ints w base v l) (hb : base' ≤ base) : Ints w base' v l := own_base h hb
theorem Ints.lt {w : World} {base : Nat} {v : Value} {l : List Int} (h : Ints w base v l) : ∀ k, v.ownBlock = some k → base ≤ k ∧ k < w.heap.size := own_lt h
theorem Ints.far {w w' : World} {base : Nat} {v : Value} {l : List Int} {row : Option Nat} (h : Ints w base v l) (hg : w.grownBy w' row) (hne : ∀ k, v.ownBlock = some k → row ≠ some k) : Ints w' base v l := own_far h hg hne
theorem Ints.low {w : World} {base : Nat} {v : Value} {l : List Int} (h : Ints w base v l) {p : Addr} (hp : p.block < base) (u : Value) : Ints (w.setCell p u) base v l := own_low h hp u
theorem Ints.nil (w : World) (base : Nat) : Ints w base (.slice none 0 0) [] := World.ownsRow_nil _ _ _ _

/-! ### searching -/
theorem findIdx_at {α : Type} (p : α → Bool) (l : List α) (j : Nat) (b : α) (h : l[j]? = some b) (h0 : (l.take j).findIdx? p = none) (hp : p b = true) : l.findIdx? p = some j := by
  obtain ⟨hlt, rfl⟩ := List.getElem?_eq_some_iff.1 h
  rw [List.findIdx?_eq_some_iff_getElem]
  refine ⟨hlt, hp, fun i hi => ?_⟩
  rw [List.findIdx?_eq_none_iff] at h0
  have := h0 l[i] (by rw [List.mem_take_iff_getElem]; exact ⟨i, by omega, rfl⟩)
  simp [this]
theorem findIdx_next {α : Type} (p : α → Bool) (l : List α) (j : Nat) (b : α) (h : l[j]? = some b) (h0 : (l.take j).findIdx? p = none) (hp : p b = false) : (l.take (j+1)).findIdx? p = none := by
  rw [List.take_add_one, h]
  rw [List.findIdx?_eq_none_iff] at *
  intro x hx
  simp at hx
  rcases hx with hx | rfl
  · exact h0 x hx
  · exact hp
def fidx (o : Option Nat) : Int := match o with | some i => i | none => -1
theorem fidx_nonneg (o : Option Nat) : decide (0 ≤ fidx o) = o.isSome := by
  cases o <;> simp [fidx]
theorem getD_of {α : Type} (l : List α) (j : Nat) (d : α) (h : j < l.length) : l[j]? = some (l.getD j d) := by simp [h]
/-- In a range: Go's 'low <= n && n <= high'. -/
def inB (n low high : Int) : Bool := decide (low ≤ n) && decide (n ≤ high)

/-! ### append -/
section
variable {P : Program}
theorem run_app (w : World) (base base2 : Nat) (t ty e : TypeId) (i : TypeInfo) (z : Value) (size bytes : Nat) (ht : P.underlying t = some (.slice e)) (hi : P.info? e = some i) (hz : i.zero = some z)
    (hsize : i.size = size) (hby : i.bytes = bytes) (hzs : z.cells.size = size) (hsz : 0 < size)
    (v : Value) (n : Nat) (xs : List Value) (hown : w.ownsRow base e size v n xs)
    (u : Value) (m : Nat) (ys : List Value) (hsrc : w.ownsRow base2 e size u m ys) (h1 : ∀ y ∈ ys, y.oneCell' = true)
    (h63 : n + m ≤ maxLen) (hbytes : (n + m) * bytes ≤ 140737488355328) (hbase : base ≤ w.heap.size) :
    ∃ v' w', (Builtin.append_ #[t, t] ty #[v, u]).run P w = .ok v' w' ∧ w'.ownsRow base e size v' (n + m) (xs ++ ys) ∧ w.grownBy w' v.ownBlock := by
  rcases hsrc.2 with ⟨rfl, rfl⟩ | ⟨g, cap, cur, rfl, hg, hh, hn, hc, hs, rfl⟩
  · obtain rfl : ys = [] := List.eq_nil_of_length_eq_zero (by simpa using hsrc.1)
    exact ⟨v, w, run_append_owned_none (P := P) w base t ty e i size ht hi v n xs hown, by simpa using hown, World.grownBy.refl w _⟩
  · obtain ⟨v', w', h2, h3, h4, _⟩ := run_append_own (P := P) w base t ty e i z size bytes ht hi hz hsize hby hzs hsz v n xs hown ⟨g, 0, none⟩ m cap _ hsrc.1 (hsrc.cells (g := g) rfl) h1 h63 hbytes hbase
    exact ⟨v', w', h2, h3, h4⟩
theorem wp_app {o : Oper} {a : Act} {K : Act → World → Prop} {Q : Exit → Act → World → Prop} (w : World) (s x : Operand) (t : TypeId)
    (ho : o.op = .call { callee := .builtin .append, args := #[s, x], argTypes := #[t, t] })
    (base base2 : Nat) (e : TypeId) (i : TypeInfo) (z : Value) (size bytes : Nat) (ht : P.underlying t = some (.slice e)) (hi : P.info? e = some i) (hz : i.zero = some z)
    (hsize : i.size = size) (hby : i.bytes = bytes) (hzs : z.cells.size = size) (hsz : 0 < size)
    (v : Value) (n : Nat) (xs : List Value) (hs : a.eval s = v) (hown : w.ownsRow base e size v n xs)
    (u : Value) (m : Nat) (ys : List Value) (hx : a.eval x = u) (hsrc : w.ownsRow base2 e size u m ys) (h1 : ∀ y ∈ ys, y.oneCell' = true)
    (h63 : n + m ≤ maxLen) (hbytes : (n + m) * bytes ≤ 140737488355328) (hbase : base ≤ w.heap.size)
    (h : ∀ v' w', w'.ownsRow base e size v' (n + m) (xs ++ ys) → w.grownBy w' v.ownBlock → K (a.put o.dst v') w') : o.wp P a w K Q := by
  obtain ⟨v', w', hr, h2, h3⟩ := run_app (P := P) w base base2 t o.type e i z size bytes ht hi hz hsize hby hzs hsz v n xs hown u m ys hsrc h1 h63 hbytes hbase
  unfold Oper.wp execOp
  simp only [ho, resolve, invoke, builtin, Sem.run_bind, Sem.run_pure, Result.andThen_ok, List.map_toArray, List.map_cons, List.map_nil, hs, hx, hr]
  exact h v' w' h2 h3
theorem wpl_app {ops : Array Oper} {rest : List Oper} {o : Oper} {a : Act} {Q : Exit → Act → World → Prop} (w : World) (hgd : o.guard = none) (s x : Operand) (t : TypeId)
    (ho : o.op = .call { callee := .builtin .append, args := #[s, x], argTypes := #[t, t] })
    (base base2 : Nat) (e : TypeId) (i : TypeInfo) (z : Value) (size bytes : Nat) (ht : P.underlying t = some (.slice e)) (hi : P.info? e = some i) (hz : i.zero = some z)
    (hsize : i.size = size) (hby : i.bytes = bytes) (hzs : z.cells.size = size) (hsz : 0 < size)
    (v : Value) (n : Nat) (xs : List Value) (hs : a.eval s = v) (hown : w.ownsRow base e size v n xs)
    (u : Value) (m : Nat) (ys : List Value) (hx : a.eval x = u) (hsrc : w.ownsRow base2 e size u m ys) (h1 : ∀ y ∈ ys, y.oneCell' = true)
    (h63 : n + m ≤ maxLen) (hbytes : (n + m) * bytes ≤ 140737488355328) (hbase : base ≤ w.heap.size)
    (h : ∀ v' w', w'.ownsRow base e size v' (n + m) (xs ++ ys) → w.grownBy w' v.ownBlock → wpList P ops Q rest (a.put o.dst v') w') : wpList P ops Q (o :: rest) a w :=
  wpList_plain hgd fun _ hK => wp_app w s x t ho base base2 e i z size bytes ht hi hz hsize hby hzs hsz v n xs hs hown u m ys hx hsrc h1 h63 hbytes hbase fun v' w' h2 h3 => hK _ _ (h v' w' h2 h3)
theorem if_yes {c : Prop} [Decidable c] {A B : Prop} (hc : c) (h : A) : if c then A else B := by rw [if_pos hc]; exact h
theorem step_app {ops : Array Oper} {o : Oper} {a : Act} {K : Act → World → Prop} {Q : Exit → Act → World → Prop} {E : Prop} (w : World) (hgd : o.guard = none) (s x : Operand) (t : TypeId)
    (ho : o.op = .call { callee := .builtin .append, args := #[s, x], argTypes := #[t, t] })
    (base base2 : Nat) (e : TypeId) (i : TypeInfo) (z : Value) (size bytes : Nat) (ht : P.underlying t = some (.slice e)) (hi : P.info? e = some i) (hz : i.zero = some z)
    (hsize : i.size = size) (hby : i.bytes = bytes) (hzs : z.cells.size = size) (hsz : 0 < size)
    (v : Value) (n : Nat) (xs : List Value) (hs : a.eval s = v) (hown : w.ownsRow base e size v n xs)
    (u : Value) (m : Nat) (ys : List Value) (hx : a.eval x = u) (hsrc : w.ownsRow base2 e size u m ys) (h1 : ∀ y ∈ ys, y.oneCell' = true)
    (h63 : n + m ≤ maxLen) (hbytes : (n + m) * bytes ≤ 140737488355328) (hbase : base ≤ w.heap.size)
    (h : ∀ v' w', w'.ownsRow base e size v' (n + m) (xs ++ ys) → w.grownBy w' v.ownBlock → K (a.put o.dst v') w') :
    if Region.wanted o (yielded ops a.tmps) = true then Oper.wp P o a w K Q else E := by
  have hw : Region.wanted o (yielded ops a.tmps) = true := by simp [Region.wanted, hgd]
  rw [if_pos hw]
  exact wp_app w s x t ho base base2 e i z size bytes ht hi hz hsize hby hzs hsz v n xs hs hown u m ys hx hsrc h1 h63 hbytes hbase h
end
def RetInts (w : World) (l : List Int) : Ending → World → Prop := fun e w' => ∃ v, e = .returned v ∧ Ints w' w.heap.size v l ∧ Below w.heap.size w w'
def RetIntsB (w : World) (l : List Int) (b : Bool) : Ending → World → Prop := fun e w' => ∃ v, e = .returned (.tuple #[v, .bool b]) ∧ Ints w' w.heap.size v l ∧ Below w.heap.size w w'
theorem info_int : (Try.prog.info? 3).map (fun i => (i.zero, i.size, i.bytes)) = some (some (.int .i64 0), 1, 8) := by kernel_rfl
theorem info_ints : (Try.prog.info? 41).map (fun i => (i.zero, i.size, i.bytes)) = some (some (.slice none 0 0), 1, 24) := by kernel_rfl

/-! ### bounds -/
structure Bd where
  f : Int
  t : Int
  m : Int
  deriving DecidableEq, Inhabited
structure Pl where
  pts : Int
  bs : List Bd
  deriving DecidableEq, Inhabited
def Bd.z : Bd := ⟨0, 0, 0⟩
def Bd.val (b : Bd) : Value := .agg #[.int .i64 b.f, .int .i64 b.t, .int .i64 b.m]
def Bd.cells (b : Bd) : List Value := [.int .i64 b.f, .int .i64 b.t, .int .i64 b.m]
def bcells (l : List Bd) : List Value := l.flatMap Bd.cells
theorem bcells_length (l : List Bd) : (bcells l).length = l.length * 3 := by
  induction l with
  | nil => rfl
  | cons b l ih => simp [bcells, Bd.cells] at *; omega
theorem bcells_one (l : List Bd) : ∀ y ∈ bcells l, y.oneCell' = true := by
  intro y hy
  simp only [bcells, List.mem_flatMap, Bd.cells, List.mem_cons, List.not_mem_nil, or_false] at hy
  obtain ⟨b, _, rfl | rfl | rfl⟩ := hy <;> rfl
theorem bcells_append (l l' : List Bd) : bcells (l ++ l') = bcells l ++ bcells l' := by simp [bcells]
theorem bcells_at (l : List Bd) (i : Nat) (h : i < l.length) :
    (bcells l)[i*3]? = some (.int .i64 (l.getD i Bd.z).f) ∧ (bcells l)[i*3+1]? = some (.int .i64 (l.getD i Bd.z).t) ∧ (bcells l)[i*3+2]? = some (.int .i64 (l.getD i Bd.z).m) := by
  induction l generalizing i with
  | nil => simp at h
  | cons c l ih =>
    cases i with
    | zero => simp [bcells, Bd.cells]
    | succ i =>
      have := ih i (by simpa using h)
      have e : (i+1)*3 = i*3+1+1+1 := by omega
      simp only [bcells, List.flatMap_cons, Bd.cells, List.cons_append, List.nil_append, e] at *
      simpa using this
def Bds (w : World) (base : Nat) (v : Value) (l : List Bd) : Prop := w.ownsRow base 78 3 v l.length (bcells l)
theorem Bds.open {w : World} {base : Nat} {v : Value} {l : List Bd} (h : Bds w base v l) :
    ∃ a cap, v = .slice a l.length cap ∧ l.length ≤ cap ∧ cap ≤ 9223372036854775807 ∧
      ∀ i, i < l.length → ∃ g, a = some ⟨g, 0, none⟩ ∧ base ≤ g ∧ g < w.heap.size ∧ (∀ j, w.frozen? ⟨g, j, none⟩ = false) ∧ ∀ j, j < l.length →
        w.cell? ⟨g, j * 3, none⟩ = some (.int .i64 (l.getD j Bd.z).f) ∧ w.cell? ⟨g, j * 3 + 1, none⟩ = some (.int .i64 (l.getD j Bd.z).t) ∧ w.cell? ⟨g, j * 3 + 2, none⟩ = some (.int .i64 (l.getD j Bd.z).m) := by
  obtain ⟨a, cap, rfl, h1, h2, h3⟩ := own_open h
  refine ⟨a, cap, rfl, h1, h2, fun i hi => ?_⟩
  obtain ⟨g, rfl, h4, h5, h6, h7⟩ := h3 (i * 3) (by omega)
  refine ⟨g, rfl, h4, h5, h6, fun j hj => ?_⟩
  obtain ⟨c0, c1, c2⟩ := bcells_at l j hj
  rw [h7 _ (by omega), h7 _ (by omega), h7 _ (by omega)]
  exact ⟨c0, c1, c2⟩
theorem Bds.at_ {w : World} {base n cap : Nat} {a : Option Addr} {l : List Bd} (h : Bds w base (.slice a n cap) l) {j : Nat} (hj : j < l.length) :
    ∃ g, a = some ⟨g, 0, none⟩ ∧ base ≤ g ∧ g < w.heap.size ∧ (∀ i, w.frozen? ⟨g, i, none⟩ = false) ∧
      w.cell? ⟨g, j * 3, none⟩ = some (.int .i64 (l.getD j Bd.z).f) ∧ w.cell? ⟨g, j * 3 + 1, none⟩ = some (.int .i64 (l.getD j Bd.z).t) ∧ w.cell? ⟨g, j * 3 + 2, none⟩ = some (.int .i64 (l.getD j Bd.z).m) := by
  obtain ⟨a', cap', he, h1, h2, h3⟩ := h.open
  cases he
  obtain ⟨g, rfl, h4, h5, h6, h7⟩ := h3 j hj
  exact ⟨g, rfl, h4, h5, h6, h7 j hj⟩
theorem bcells_set (l : List Bd) (j : Nat) (b : Bd) (h : j < l.length) : (((bcells l).set (j * 3) (.int .i64 b.f)).set (j * 3 + 1) (.int .i64 b.t)).set (j * 3 + 2) (.int .i64 b.m) = bcells (l.set j b) := by
  induction l generalizing j with
  | nil => simp at h
  | cons c l ih =>
    cases j with
    | zero => simp [bcells, Bd.cells]
    | succ j =>
      have := ih j (by simpa using h)
      have e : (j+1)*3 = j*3+1+1+1 := by omega
      simp only [bcells, List.flatMap_cons, Bd.cells, List.cons_append, List.nil_append, e, List.set_cons_succ] at *
      rw [this]
theorem Bds.set {w : World} {base n g cap : Nat} {l : List Bd} (h : Bds w base (.slice (some ⟨g, 0, none⟩) n cap) l) {j : Nat} (hj : j < l.length) (b : Bd) :
    Bds (((w.setCell ⟨g, j * 3, none⟩ (.int .i64 b.f)).setCell ⟨g, j * 3 + 1, none⟩ (.int .i64 b.t)).setCell ⟨g, j * 3 + 2, none⟩ (.int .i64 b.m)) base (.slice (some ⟨g, 0, none⟩) n cap) (l.set j b) := by
  obtain ⟨a', cap', he, -⟩ := h.open
  cases he
  unfold Bds at *
  rw [List.length_set, ← bcells_set l j b hj]
  exact ((((h.stored _ _).1).stored _ _).1.stored _ _).1
theorem bcells_setM (l : List Bd) (j : Nat) (x : Int) (h : j < l.length) : (bcells l).set (j * 3 + 2) (.int .i64 x) = bcells (l.set j ⟨(l.getD j Bd.z).f, (l.getD j Bd.z).t, x⟩) := by
  induction l generalizing j with
  | nil => simp at h
  | cons c l ih =>
    cases j with
    | zero => simp [bcells, Bd.cells]
    | succ j =>
      have := ih j (by simpa using h)
      have e : (j+1)*3 = j*3+1+1+1 := by omega
      simp only [bcells, List.flatMap_cons, Bd.cells, List.cons_append, List.nil_append, e, List.set_cons_succ, List.getD_cons_succ] at *
      rw [this]
theorem Bds.setM {w : World} {base n g cap : Nat} {l : List Bd} (h : Bds w base (.slice (some ⟨g, 0, none⟩) n cap) l) {j : Nat} (hj : j < l.length) (x : Int) :
    Bds (w.setCell ⟨g, j * 3 + 2, none⟩ (.int .i64 x)) base (.slice (some ⟨g, 0, none⟩) n cap) (l.set j ⟨(l.getD j Bd.z).f, (l.getD j Bd.z).t, x⟩) := by
  obtain ⟨a', cap', he, -⟩ := h.open
  cases he
  unfold Bds at *
  rw [List.length_set, ← bcells_setM l j x hj]
  exact (h.stored _ _).1
theorem Bds.alloc {w : World} {base : Nat} {v : Value} {l : List Bd} (h : Bds w base v l) (o : Obj) : Bds (w.alloc o) base v l := World.ownsRow.alloc h o
theorem Bds.drew {w : World} {base : Nat} {v : Value} {l : List Bd} (h : Bds w base v l) : Bds w.drew base v l := h
theorem Bds.ext {w w' : World} {base : Nat} {v : Value} {l : List Bd} (h : Bds w base v l) (hb : Below w.heap.size w w') : Bds w' base v l := own_ext h hb
theorem Bds.base {w : World} {base base' : Nat} {v : Value} {l : List Bd} (h : Bds w base v l) (hb : base' ≤ base) : Bds w base' v l := own_base h hb
theorem Bds.lt {w : World} {base : Nat} {v : Value} {l : List Bd} (h : Bds w base v l) : ∀ k, v.ownBlock = some k → base ≤ k ∧ k < w.heap.size := own_lt h
theorem Bds.far {w w' : World} {base : Nat} {v : Value} {l : List Bd} {row : Option Nat} (h : Bds w base v l) (hg : w.grownBy w' row) (hne : ∀ k, v.ownBlock = some k → row ≠ some k) : Bds w' base v l := own_far h hg hne
theorem Bds.low {w : World} {base : Nat} {v : Value} {l : List Bd} (h : Bds w base v l) {p : Addr} (hp : p.block < base) (u : Value) : Bds (w.setCell p u) base v l := own_low h hp u
theorem Bds.nil (w : World) (base : Nat) : Bds w base (.slice none 0 0) [] := World.ownsRow_nil _ _ _ _
def Pl.zero : Pl := ⟨0, []⟩
def RetBds (w : World) (l : List Bd) : Ending → World → Prop := fun e w' => ∃ v, e = .returned v ∧ Bds w' w.heap.size v l ∧ Below w.heap.size w w'
def RetPlan (w : World) (p : Pl) : Ending → World → Prop := fun e w' => ∃ bs, e = .returned (.agg #[.int .i64 p.pts, bs]) ∧ Bds w' w.heap.size bs p.bs ∧ Below w.heap.size w w'
def RetPlanB (w : World) (p : Pl) (b : Bool) : Ending → World → Prop := fun e w' => ∃ bs, e = .returned (.tuple #[.agg #[.int .i64 p.pts, bs], .bool b]) ∧ Bds w' w.heap.size bs p.bs ∧ Below w.heap.size w w'
theorem info_bound : (Try.prog.info? 78).map (fun i => (i.zero, i.size, i.bytes)) = some (some (.agg #[.int .i64 0, .int .i64 0, .int .i64 0]), 3, 24) := by kernel_rfl
end Go.Proofs.Ytffcfambgcaikaa
