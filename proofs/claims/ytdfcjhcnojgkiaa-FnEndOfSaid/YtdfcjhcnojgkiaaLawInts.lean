/- The walks of the helpers of laws on rows of numbers: copies of the arguments, equality, marks. Conditions: the numbers can be read, and are at most a few million. -/
import Derived.Test.YtdfcjhcnojgkiaaApp
import Derived.Deep.Cut
namespace Go.Proofs.Ytdfcjhcnojgkiaa
open Go.RowKit
set_option linter.unusedVariables false
set_option linter.unusedSimpArgs false
theorem ext_drewN' (w : World) (n : Nat) : Below w.heap.size w (w.drewN n) := ⟨rfl, rfl, rfl, Nat.le_refl _, fun _ _ => rfl⟩
theorem eq_ints (l l' : List Int) (h : l.length = l'.length) (hall : ∀ j, j < l.length → l.getD j 0 = l'.getD j 0) : l = l' := by
  apply List.ext_getElem h
  intro i h1 h2
  have := hall i h1
  simpa [List.getD_eq_getElem?_getD, h1, h2] using this
def szI (left : Int) (n : Nat) : Int := if left - n < 0 then -1 else left - n
theorem szI_neg {left : Int} {n : Nat} (h : left - n < 0) : szI left n = -1 := if_pos h
theorem szI_pos {left : Int} {n : Nat} (h : ¬ left - n < 0) : szI left n = left - n := if_neg h
/-- A slice of numbers that came in: wherever it lies. -/
def AInts (w : World) (a : Option Addr) (n cap : Nat) (l : List Int) : Prop := l.length = n ∧ n ≤ cap ∧ cap ≤ 9223372036854775807 ∧
  ∀ j, j < n → ∃ b o, a = some ⟨b, o, none⟩ ∧ b < w.heap.size ∧ w.cell? ⟨b, o + j, none⟩ = some (.int .i64 (l.getD j 0))
theorem AInts.ext {w w' : World} {a : Option Addr} {n cap : Nat} {l : List Int} (h : AInts w a n cap l) (hb : Below w.heap.size w w') : AInts w' a n cap l := by
  obtain ⟨h1, h2, h3, h4⟩ := h
  refine ⟨h1, h2, h3, fun j hj => ?_⟩
  obtain ⟨b, o, rfl, g0, g1⟩ := h4 j hj
  exact ⟨b, o, rfl, Nat.lt_of_lt_of_le g0 hb.size, (hb.cell (by exact g0)).trans g1⟩
set_option maxHeartbeats 400000 in
theorem laws_szIntS (a : Option Addr) (n cap : Nat) (left : Int) (w : World) (h0 : 0 ≤ left) (h1 : left ≤ 1048576) (hn : n ≤ 9223372036854775807) :
    Calls Try.prog 33 #[.slice a n cap, .int .i64 left] w fun e w' => e = .returned (.int .i64 (szI left n)) ∧ Below w.heap.size w w' := by
  by_cases h : left - n < 0
  · have Hr := Lib.hid (szI_neg h)
    go_enter Try.func33, Try.ntmps33
    go_wp2
    go_ret
    exact ⟨by rw [Hr.out]; rfl, ext_refl _⟩
  · have Hr := Lib.hid (szI_pos h)
    go_enter Try.func33, Try.ntmps33
    go_wp2
    go_ret
    exact ⟨by rw [Hr.out]; rfl, ext_refl _⟩
theorem made_ints (n : Nat) : (madeCells #[Value.int .i64 0] (n * 1)).toList = (List.replicate n (0 : Int)).map (Value.int .i64) := by
  apply List.ext_getElem?
  intro i
  by_cases hi : i < n
  · have : i % 1 = 0 := Nat.mod_one i
    simp [madeCells, hi, this, List.getElem?_replicate]
  · simp [madeCells, hi, List.getElem?_replicate]
theorem fill_len {α : Type} (l : List α) (z : α) (n j : Nat) (hl : l.length = n) (hj : j ≤ n) : (l.take j ++ List.replicate (n - j) z).length = n := by
  rw [List.length_append, List.length_take, List.length_replicate]; omega
theorem fill_put {α : Type} (l : List α) (z b : α) (n j : Nat) (hl : l.length = n) (hj : j < n) (hb : l[j]? = some b) : (l.take j ++ List.replicate (n - j) z).set j b = l.take (j+1) ++ List.replicate (n - (j+1)) z := by
  have e : (l.take j).length = j := by rw [List.length_take]; omega
  rw [List.set_append_right _ _ (by omega), e, Nat.sub_self, show n - j = (n - (j+1)) + 1 by omega, List.replicate_succ, List.set_cons_zero, List.take_add_one, hb]
  simp
set_option maxRecDepth 100000 in
set_option maxHeartbeats 1000000 in
theorem laws_toIntS (a : Option Addr) (n cap : Nat) (l : List Int) (w : World) (h : AInts w a n cap l) (hn : n ≤ 1048576) :
    Calls Try.prog 12 #[.slice a n cap] w (RetInts w l) := by
  obtain ⟨hl, hcap, hmax, hcell⟩ := h
  obtain ⟨i0, hi, hz0, hz1, hz2⟩ := info_parts info_int
  have Hi := Lib.hid hi; have Hz0 := Lib.hid hz0; have Hz1 := Lib.hid hz1; have Hz2 := Lib.hid hz2
  have Hl := Lib.hid hl
  clear hi hz0 hz1 hz2 hl
  go_enter Try.func12, Try.ntmps12
  go_wp2_with (at_make; refine wpList_make_full _ rfl (.tmp 6) (.tmp 6) 22 rfl w.heap.size 3 i0 _ 1 Try.underlying22 Hi.out Hz0.out Hz1.out .i64 .i64 n n n rfl rfl rfl rfl (by rw [Hz2.out]; omega) (by unfold maxLen; omega) (Nat.le_refl _) ?_; intro w1 hown hgrow)
  have Hown := Lib.hid hown
  have hb1 := ext_grown (ext_refl w) hgrow (by simp)
  have hz1 := hgrow.size
  clear hown hgrow
  have hbd0 : Ints w1 w.heap.size (.slice (some ⟨w.heap.size, 0, none⟩) n n) (List.replicate n 0) := by
    unfold Ints
    rw [← made_ints, List.length_replicate]
    exact Hown.out
  go_loopg [4] n (fun m k wr => ∃ j : Nat, j ≤ n ∧ m = n - j ∧ k = .int .i64 j ∧ Ints wr w.heap.size (.slice (some ⟨w.heap.size, 0, none⟩) n n) (l.take j ++ List.replicate (n - j) 0) ∧ Below w.heap.size w wr)
  case atStart => exact ⟨0, by omega, by omega, rfl, by simpa using hbd0, hb1⟩
  case round =>
    obtain ⟨j, hj, hgk, rfl, hbd, hbel⟩ := hrel
    have Hk := Lib.hid hgk; have Hbd := Lib.hid hbd
    have hl := Hl.out
    clear hgk hbd hbd0
    by_cases hlt : j < n
    · obtain ⟨b, o, rfl, g0, g1⟩ := hcell j hlt
      have d0 := (hbel.cell (by exact g0)).trans g1
      have Hj := Lib.hid (getD_of l j 0 (by omega))
      clear g1 hcell hl
      obtain ⟨x, hx⟩ : ∃ x, Hid (x = l.getD j 0) := ⟨_, rfl⟩
      rw [← hx.out] at d0 Hj
      have Hf := Lib.hid (fill_len l 0 n j Hl.out (by omega))
      obtain ⟨g', hg', _, hgz, hfz, k0⟩ := Hbd.out.at_ (j := j) (by have := Hf.out; omega)
      cases hg'
      go_wp2_with fail
      go_roundg (n - (j+1))
      case rel =>
        refine ⟨j+1, by omega, rfl, by go_num, ?_, ext_set hbel (by simp) _⟩
        rw [← fill_put l 0 x n j Hl.out hlt Hj.out]
        exact Hbd.out.set j x
      case measure => have := Hk.out; omega
    · have hjl : j = n := by omega
      subst hjl
      go_wp2
      go_ret
      refine ⟨_, rfl, ?_, hbel⟩
      have := Hbd.out
      rw [Nat.sub_self, List.replicate_zero, List.append_nil, List.take_of_length_le (by omega)] at this
      exact this
set_option maxRecDepth 100000 in
set_option maxHeartbeats 1000000 in
theorem laws_eqIntS (v v' : Value) (l l' : List Int) (w : World) (hv : Ints w 0 v l) (hv' : Ints w 0 v' l') :
    Calls Try.prog 15 #[v, v'] w fun e w' => e = .returned (.bool (decide (l = l'))) ∧ Below w.heap.size w w' := by
  have Hv := Lib.hid hv; have Hv' := Lib.hid hv'
  obtain ⟨a, cap, rfl, hn, hc, -⟩ := hv.open
  obtain ⟨a', cap', rfl, hn', hc', -⟩ := hv'.open
  clear hv hv'
  by_cases hlen : l.length = l'.length
  · have Hlen := Lib.hid hlen
    have hne : ((l.length : Int) != (l'.length : Int)) = false := by simp [hlen]
    clear hlen
    go_enter Try.func15, Try.ntmps15
    go_wp2_with fail
    go_loopg [5] l.length (fun m k wr => ∃ j : Nat, j ≤ l.length ∧ m = l.length - j ∧ k = .int .i64 j ∧ Below w.heap.size w wr ∧ Hid (∀ i, i < j → l.getD i 0 = l'.getD i 0))
    case atStart => exact ⟨0, by omega, by omega, rfl, ext_refl _, fun i hi => by omega⟩
    case round =>
      obtain ⟨j, hj, hgk, rfl, hbel, Hall⟩ := hrel
      have Hk := Lib.hid hgk
      clear hgk
      have hl2 : j ≤ l'.length := by have := Hlen.out; omega
      by_cases hlt : j < l.length
      · have hlt2 : j < l'.length := by have := Hlen.out; omega
        obtain ⟨g, rfl, _, hg, _, k0⟩ := (Hv.out.ext hbel).at_ hlt
        obtain ⟨g', rfl, _, hg', _, m0⟩ := (Hv'.out.ext hbel).at_ hlt2
        obtain ⟨b, Hb⟩ : ∃ b, Hid (b = l.getD j 0) := ⟨_, rfl⟩
        obtain ⟨b', Hb'⟩ : ∃ b, Hid (b = l'.getD j 0) := ⟨_, rfl⟩
        rw [← Hb.out] at k0
        rw [← Hb'.out] at m0
        by_cases hbb : b = b'
        · have hbn : (b != b') = false := by simp [hbb]
          have Hbb := Lib.hid hbb
          clear hbb
          go_wp2_with fail
          go_quiet (fail)
          go_wp2_with fail
          go_roundg (l.length - (j+1))
          case rel =>
            refine ⟨j+1, by omega, rfl, by go_num, ext_trans hbel (ext_drewN' _ _), fun i hi => ?_⟩
            by_cases hij : i = j
            · subst hij; rw [← Hb.out, ← Hb'.out]; exact Hbb.out
            · exact Hall.out i (by omega)
          case measure => have := Hk.out; omega
        · have hbn : (b != b') = true := by simp [hbb]
          have Hbb := Lib.hid hbb
          clear hbb
          go_wp2_with fail
          go_quiet (fail)
          go_wp2_with fail
          go_ret
          refine ⟨?_, ext_trans hbel (ext_drewN' _ _)⟩
          have : ¬ l = l' := fun h => Hbb.out (by rw [Hb.out, Hb'.out, h])
          rw [decide_eq_false this]; rfl
      · have hjl : j = l.length := by omega
        subst hjl
        go_wp2
        go_ret
        refine ⟨?_, hbel⟩
        rw [decide_eq_true (eq_ints l l' Hlen.out Hall.out)]; rfl
  · have hne : ((l.length : Int) != (l'.length : Int)) = true := by simp; omega
    have Hlen := Lib.hid hlen
    clear hlen
    go_enter Try.func15, Try.ntmps15
    go_wp2
    go_ret
    refine ⟨?_, ext_refl _⟩
    rw [decide_eq_false (fun h => Hlen.out (by rw [h]))]; rfl
def tags (k : Int) (n : Nat) : List Int := (List.range n).map fun (i : Nat) => k + (i : Int)
theorem tags_length (k : Int) (n : Nat) : (tags k n).length = n := by simp [tags]
theorem tags_getD (k : Int) (n j : Nat) (h : j < n) : (tags k n).getD j 0 = k + j := by simp [tags, List.getD_eq_getElem?_getD, h]
theorem tags_set (k : Int) (l : List Int) (j : Nat) (h : j < l.length) : (tags k j ++ l.drop j).set j (k + j) = tags k (j+1) ++ l.drop (j+1) := by
  rw [List.set_append_right _ _ (by rw [tags_length]; omega), tags_length, Nat.sub_self, List.drop_eq_getElem_cons h, List.set_cons_zero]
  simp [tags, List.range_succ]
set_option maxRecDepth 100000 in
set_option maxHeartbeats 1000000 in
theorem laws_markIntS (v : Value) (l : List Int) (base : Nat) (k : Int) (w : World) (hv : Ints w base v l) (h0 : 0 ≤ k) (h1 : k ≤ 1000000000) (hn : l.length ≤ 4000000) :
    Calls Try.prog 21 #[v, .int .i64 k] w fun e w' => e = .returned (.int .i64 (k + l.length)) ∧ Ints w' base v (tags k l.length) ∧ w.grownBy w' v.ownBlock := by
  have Hv := Lib.hid hv
  obtain ⟨a, cap, rfl, hcap, hc, -⟩ := hv.open
  clear hv
  go_enter Try.func21, Try.ntmps21
  go_wp2_with fail
  go_loopg [1, 5] l.length (fun m kk i wr => ∃ j : Nat, j ≤ l.length ∧ m = l.length - j ∧ i = .int .i64 j ∧ kk = .int .i64 (k + j) ∧ Ints wr base (.slice a l.length cap) (tags k j ++ l.drop j) ∧ w.grownBy wr (Value.slice a l.length cap).ownBlock)
  case atStart => exact ⟨0, by omega, by omega, rfl, by simp, by simpa [tags] using Hv.out, World.grownBy.refl _ _⟩
  case round =>
    obtain ⟨j, hj, hgk, rfl, rfl, hbd, hgr⟩ := hrel
    have Hk := Lib.hid hgk; have Hbd := Lib.hid hbd; have Hgr := Lib.hid hgr
    clear hgk hbd hgr
    by_cases hlt : j < l.length
    · have hlen : (tags k j ++ l.drop j).length = l.length := by rw [List.length_append, tags_length, List.length_drop]; omega
      have Hlen := Lib.hid hlen
      obtain ⟨g, rfl, _, hg, hfz, k0⟩ := Hbd.out.at_ (j := j) (by omega)
      clear hlen
      generalize (tags k j ++ l.drop j).getD j 0 = b at *
      go_wp2_with fail
      go_roundg (l.length - (j+1))
      case rel =>
        refine ⟨j+1, by omega, rfl, by go_num, by go_num, ?_, grown_set Hgr.out _⟩
        rw [← tags_set k l j hlt]
        exact Hbd.out.set j (k + j)
      case measure => have := Hk.out; omega
    · have hjl : j = l.length := by omega
      subst hjl
      go_wp2
      go_ret
      refine ⟨rfl, ?_, Hgr.out⟩
      have := Hbd.out
      rw [List.drop_length, List.append_nil] at this
      exact this
set_option maxRecDepth 100000 in
set_option maxHeartbeats 1000000 in
theorem laws_heldIntS (v : Value) (n : Nat) (k : Int) (w : World) (hv : Ints w 0 v (tags k n)) (h0 : 0 ≤ k) (h1 : k ≤ 1000000000) (hn : n ≤ 4000000) :
    Calls Try.prog 22 #[v, .int .i64 k] w fun e w' => e = .returned (.int .i64 (k + n)) ∧ Below w.heap.size w w' := by
  have Hv := Lib.hid hv
  obtain ⟨a, cap, rfl, hcap, hc, -⟩ := hv.open
  clear hv
  rw [tags_length] at *
  go_enter Try.func22, Try.ntmps22
  go_wp2_with fail
  go_loopg [1, 5] n (fun m kk i wr => ∃ j : Nat, j ≤ n ∧ m = n - j ∧ i = .int .i64 j ∧ kk = .int .i64 (k + j) ∧ wr = w)
  case atStart => exact ⟨0, by omega, by omega, rfl, by simp, rfl⟩
  case round =>
    obtain ⟨j, hj, hgk, rfl, rfl, rfl⟩ := hrel
    have Hk := Lib.hid hgk
    clear hgk
    by_cases hlt : j < n
    · obtain ⟨g, rfl, _, hg, hfz, k0⟩ := Hv.out.at_ (j := j) (by rw [tags_length]; omega)
      rw [tags_getD k n j hlt] at k0
      go_wp2_with fail
      go_roundg (n - (j+1))
      case rel => exact ⟨j+1, by omega, rfl, by go_num, by go_num, rfl⟩
      case measure => have := Hk.out; omega
    · have hjl : j = n := by omega
      subst hjl
      go_wp2
      go_ret
      exact ⟨rfl, ext_refl _⟩
set_option maxHeartbeats 400000 in
theorem laws_szProject (a : Option Addr) (n cap : Nat) (b : Option Addr) (m cbp : Nat) (left : Int) (w : World) (h0 : 0 ≤ left) (h1 : left ≤ 1048576) (hn : n ≤ 9223372036854775807) (hm : m ≤ 9223372036854775807) :
    Calls Try.prog 9 #[.agg #[.slice a n cap, .slice b m cbp], .int .i64 left] w fun e w' => e = .returned (.int .i64 (szI left (n + m))) ∧ Below w.heap.size w w' := by
  by_cases h : left - n < 0
  · have Hr := Lib.hid (szI_neg h)
    have Hr2 := Lib.hid (szI_neg (left := left) (n := n + m) (by omega))
    go_enter Try.func9, Try.ntmps9
    go_wp2_with fail
    obtain ⟨W, hW, A0, hs, E⟩ := one_box w #[.slice a n cap, .slice b m cbp] 24
    rw [← hW.out]
    refine (laws_szIntS a n cap left _ h0 h1 hn).mono ?_
    rintro e w' ⟨rfl, hb⟩
    rw [Hr.out]
    go_wp2
    go_ret
    exact ⟨by rw [Hr2.out]; rfl, ext_trans E hb⟩
  · have Hr := Lib.hid (szI_pos h)
    go_enter Try.func9, Try.ntmps9
    go_wp2_with fail
    obtain ⟨W, hW, A0, hs, E⟩ := one_box w #[.slice a n cap, .slice b m cbp] 24
    rw [← hW.out]
    refine (laws_szIntS a n cap left _ h0 h1 hn).mono ?_
    rintro e w' ⟨rfl, hb⟩
    rw [Hr.out]
    have A0 := A0.ext hb
    have E := ext_trans E hb
    obtain ⟨rc0, rz0⟩ := (A0).rules; have rl0 := (A0).lt
    go_wp2_with fail
    refine (laws_szIntS b m cbp (left - n) _ (by omega) (by omega) hm).mono ?_
    rintro e w2 ⟨rfl, hb2⟩
    have E := ext_trans E hb2
    by_cases h2 : left - n - m < 0
    · have Hr3 := Lib.hid (szI_neg h2)
      have Hr2 := Lib.hid (szI_neg (left := left) (n := n + m) (by omega))
      rw [Hr3.out]
      go_wp2
      go_ret
      exact ⟨by rw [Hr2.out]; rfl, E⟩
    · have Hr3 := Lib.hid (szI_pos h2)
      have Hr2 := Lib.hid (szI_pos (left := left) (n := n + m) (by omega))
      rw [Hr3.out]
      go_wp2
      go_ret
      refine ⟨?_, E⟩
      rw [Hr2.out, show left - ((n + m : Nat) : Int) = left - n - m by omega]; rfl
def RetProj (w : World) (l t : List Int) : Ending → World → Prop := fun e w' => ∃ v1 v2, e = .returned (.agg #[v1, v2]) ∧ Ints w' w.heap.size v1 l ∧ Ints w' w.heap.size v2 t ∧ (∀ q, v1.ownBlock = some q → v2.ownBlock ≠ some q) ∧ Below w.heap.size w w'
set_option maxHeartbeats 1000000 in
theorem laws_toProject (a : Option Addr) (n cap : Nat) (l : List Int) (b : Option Addr) (m cbp : Nat) (t : List Int) (w : World) (h : AInts w a n cap l) (h' : AInts w b m cbp t) (hn : n ≤ 1048576) (hm : m ≤ 1048576) :
    Calls Try.prog 11 #[.agg #[.slice a n cap, .slice b m cbp]] w (RetProj w l t) := by
  have H := Lib.hid h; have H' := Lib.hid h'
  clear h h'
  go_enter Try.func11, Try.ntmps11
  go_wp2_with fail
  obtain ⟨W, hW, B0, B1, B2, hs, HB⟩ := three_boxes w #[.slice a n cap, .slice b m cbp] #[.slice none 0 0, .slice none 0 0] #[.slice none 0 0, .slice none 0 0] 24 27 27
  rw [← hW.out]
  refine (laws_toIntS a n cap l _ (H.out.ext HB) hn).mono ?_
  rintro e w1 ⟨v, rfl, hv, hb1⟩
  obtain ⟨av, capv, rfl, -⟩ := hv.open
  have Hv := Lib.hid hv
  have B0 := B0.ext hb1; have B1 := B1.ext hb1; have B2 := B2.ext hb1
  have E := ext_trans HB hb1
  have hz1 := hb1.size
  clear hv hb1
  obtain ⟨w2, hw2⟩ : ∃ w2, Hid (w2 = w1.setCell ⟨w.heap.size + 1 + 1, 0, none⟩ (.slice av l.length capv)) := ⟨_, rfl⟩
  have C2 : Box w2 (w.heap.size + 1 + 1) 27 #[.slice av l.length capv, .slice none 0 0] := by rw [hw2.out]; exact B2.set 0 _
  have C0 : Box w2 w.heap.size 24 #[.slice a n cap, .slice b m cbp] := by rw [hw2.out]; exact B0.far (by simp; omega) _
  have C1 : Box w2 (w.heap.size + 1) 27 #[.slice none 0 0, .slice none 0 0] := by rw [hw2.out]; exact B1.far (by simp) _
  have E2 : Below w.heap.size w w2 := by rw [hw2.out]; exact ext_set E (by simp; omega) _
  have R2 : Hid (Ints w2 W.heap.size (.slice av l.length capv) l) := by rw [hw2.out]; exact Lib.hid (Hv.out.low (by simp; omega) _)
  have hz2 : w1.heap.size ≤ w2.heap.size := by rw [hw2.out]; simp [World.setCell]
  obtain ⟨rc2, rz2⟩ := (B2).rules; have rl2 := (B2).lt
  obtain ⟨rc0, rz0⟩ := (B0).rules; have rl0 := (B0).lt
  go_wp2_with fail
  rw [← hw2.out]
  clear rc2 rz2 rl2 rc0 rz0 rl0 B0 B1 B2 Hv E
  refine (laws_toIntS b m cbp t _ (H'.out.ext E2) hm).mono ?_
  rintro e w3 ⟨v', rfl, hv', hb3⟩
  obtain ⟨av', capv', rfl, -⟩ := hv'.open
  have Hv' := Lib.hid hv'
  have C0 := C0.ext hb3; have C1 := C1.ext hb3; have C2 := C2.ext hb3
  have E3 := ext_trans E2 hb3
  have Hlo := Lib.hid (R2.out.lt)
  have Hlo : Hid (∀ q, (Value.slice av l.length capv).ownBlock = some q → q < w2.heap.size) := fun q hq => (Hlo.out q hq).2
  have R2 := Lib.hid (R2.out.ext hb3)
  have hz3 := hb3.size
  clear hv' hb3 E2
  obtain ⟨rc2, rz2⟩ := (C2).rules; have rl2 := (C2).lt
  obtain ⟨rc1, rz1⟩ := (C1).rules; have rl1 := (C1).lt
  go_wp2_with fail
  refine bodyPost_ret (v := .agg #[.slice av l.length capv, .slice av' t.length capv']) (by simp [results, Try.results11, go_sem, *]) rfl ?_
  exact ⟨_, _, rfl, (((R2.out.low (by dsimp only; omega) _).low (by dsimp only; omega) _).low (by dsimp only; omega) _).base (by omega), (((Hv'.out.low (by dsimp only; omega) _).low (by dsimp only; omega) _).low (by dsimp only; omega) _).base (by omega),
    fun q hq hq' => by have := R2.out.lt q hq; have := Hv'.out.lt q hq'; have := Hlo.out q hq; omega,
    ext_set (ext_set (ext_set E3 (by dsimp only; omega) _) (by dsimp only; omega) _) (by dsimp only; omega) _⟩
set_option maxHeartbeats 1000000 in
theorem laws_eqProject (v1 v2 v3 v4 : Value) (l t l' t' : List Int) (w : World) (h1 : Ints w 0 v1 l) (h2 : Ints w 0 v2 t) (h3 : Ints w 0 v3 l') (h4 : Ints w 0 v4 t') :
    Calls Try.prog 14 #[.agg #[v1, v2], .agg #[v3, v4]] w fun e w' => e = .returned (.bool (decide (l = l') && decide (t = t'))) ∧ Below w.heap.size w w' := by
  have H1 := Lib.hid h1; have H2 := Lib.hid h2; have H3 := Lib.hid h3; have H4 := Lib.hid h4
  obtain ⟨a1, c1, rfl, -⟩ := h1.open
  obtain ⟨a2, c2, rfl, -⟩ := h2.open
  obtain ⟨a3, c3, rfl, -⟩ := h3.open
  obtain ⟨a4, c4, rfl, -⟩ := h4.open
  clear h1 h2 h3 h4
  go_enter Try.func14, Try.ntmps14
  go_wp2_with fail
  obtain ⟨W, hW, A0, A1, hs, E⟩ := two_boxes w #[.slice a1 l.length c1, .slice a2 t.length c2] #[.slice a3 l'.length c3, .slice a4 t'.length c4] 27 27
  rw [← hW.out]
  refine (laws_eqIntS _ _ l l' _ (H1.out.ext E) (H3.out.ext E)).mono ?_
  rintro e w1 ⟨rfl, hb1⟩
  have A0 := A0.ext hb1; have A1 := A1.ext hb1
  have E := ext_trans E hb1
  obtain ⟨rc0, rz0⟩ := (A0).rules; have rl0 := (A0).lt
  obtain ⟨rc1, rz1⟩ := (A1).rules; have rl1 := (A1).lt
  cases hd : decide (l = l')
  · go_wp2_with fail
    go_ret
    exact ⟨by rw [hd]; rfl, E⟩
  · go_wp2_with fail
    refine (laws_eqIntS _ _ t t' _ (H2.out.ext E) (H4.out.ext E)).mono ?_
    rintro e w2 ⟨rfl, hb2⟩
    have E := ext_trans E hb2
    cases hd2 : decide (t = t')
    · go_wp2_with fail
      go_ret
      exact ⟨by rw [hd, hd2]; rfl, E⟩
    · go_wp2_with fail
      go_ret
      exact ⟨by rw [hd, hd2]; rfl, E⟩
theorem grown_trans0 {w w1 w2 : World} {row : Option Nat} (h : Below w.heap.size w w1) (h2 : w1.grownBy w2 row) : w.grownBy w2 row :=
  ⟨h2.os.trans h.os, h2.tape.trans h.tape, h2.output.trans h.output, Nat.le_trans h.size h2.size, fun k hk hne => (h2.block k (Nat.lt_of_lt_of_le hk h.size) hne).trans (h.block k hk)⟩
set_option maxHeartbeats 1000000 in
theorem laws_markProject (v1 v2 : Value) (l t : List Int) (base : Nat) (k : Int) (w : World) (h1 : Ints w base v1 l) (h2 : Ints w base v2 t) (hd : ∀ q, v1.ownBlock = some q → v2.ownBlock ≠ some q) (h0 : 0 ≤ k) (hk : k ≤ 1000) (hn : l.length ≤ 2000000) (hm : t.length ≤ 2000000) :
    Calls Try.prog 20 #[.agg #[v1, v2], .int .i64 k] w fun e w' => (∃ x, e = .returned (.int .i64 x) ∧ 0 ≤ x) ∧ ∃ wm, w.grownBy wm v1.ownBlock ∧ wm.grownBy w' v2.ownBlock := by
  have H1 := Lib.hid h1; have H2 := Lib.hid h2
  obtain ⟨a1, c1, rfl, -⟩ := h1.open
  obtain ⟨a2, c2, rfl, -⟩ := h2.open
  clear h1 h2
  go_enter Try.func20, Try.ntmps20
  go_wp2_with fail
  obtain ⟨W, hW, A0, hs, E⟩ := one_box w #[.slice a1 l.length c1, .slice a2 t.length c2] 27
  rw [← hW.out]
  have lt1 := H1.out.lt
  refine (laws_markIntS _ l base k _ (H1.out.ext E) h0 (by omega) (by omega)).mono ?_
  rintro e w1 ⟨rfl, hi1, hg1⟩
  have A0 := A0.grown hg1 (fun e => by have := lt1 _ e.symm; omega)
  obtain ⟨rc0, rz0⟩ := (A0).rules; have rl0 := (A0).lt
  go_wp2_with fail
  have R2 := (H2.out.ext E).far hg1 (fun q hq e => hd q e hq)
  refine (laws_markIntS _ t base _ _ R2 (by omega) (by omega) (by omega)).mono ?_
  rintro e w2 ⟨rfl, hi2, hg2⟩
  go_wp2_with fail
  go_ret
  exact ⟨⟨_, rfl, by omega⟩, w1, grown_trans0 E hg1, hg2⟩
end Go.Proofs.Ytdfcjhcnojgkiaa
