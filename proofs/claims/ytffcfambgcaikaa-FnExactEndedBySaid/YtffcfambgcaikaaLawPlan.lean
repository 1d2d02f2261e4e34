/- The walks of the helpers of the exact laws on plans: copies of the arguments, equality, marks. Conditions: at most 1048576 bounds. -/
import Derived.Test.YtffcfambgcaikaaPlanOk
namespace Go.Proofs.Ytffcfambgcaikaa
open Go.RowKit
set_option linter.unusedVariables false
set_option linter.unusedSimpArgs false
def szR (left : Int) (n : Nat) : Int := if left - n < 0 then -1 else left - n
theorem szR_neg {left : Int} {n : Nat} (h : left - n < 0) : szR left n = -1 := if_pos h
theorem szR_pos {left : Int} {n : Nat} (h : ¬ left - n < 0) : szR left n = left - n := if_neg h
set_option maxHeartbeats 400000 in
theorem laws_szBoundS (a : Option Addr) (n cap : Nat) (left : Int) (w : World) (h0 : 0 ≤ left) (h1 : left ≤ 1048576) (hn : n ≤ 9223372036854775807) :
    Calls Try.prog 61 #[.slice a n cap, .int .i64 left] w fun e w' => e = .returned (.int .i64 (szR left n)) ∧ w = w' := by
  by_cases h : left - n < 0
  · have Hr := Lib.hid (szR_neg h)
    go_enter Try.func61, Try.ntmps61
    go_wp2
    go_ret
    exact ⟨by rw [Hr.out]; rfl, rfl⟩
  · have Hr := Lib.hid (szR_pos h)
    go_enter Try.func61, Try.ntmps61
    go_wp2
    go_ret
    exact ⟨by rw [Hr.out]; rfl, rfl⟩
set_option maxHeartbeats 400000 in
theorem laws_szPlan (pts : Int) (a : Option Addr) (n cap : Nat) (left : Int) (w : World) (h0 : 0 ≤ left) (h1 : left ≤ 1048576) (hn : n ≤ 9223372036854775807) :
    Calls Try.prog 23 #[.agg #[.int .i64 pts, .slice a n cap], .int .i64 left] w fun e w' => e = .returned (.int .i64 (szR left n)) ∧ Below w.heap.size w w' := by
  by_cases h : left - n < 0
  · have Hr := Lib.hid (szR_neg h)
    go_enter Try.func23, Try.ntmps23
    go_wp2_with fail
    refine (laws_szBoundS a n cap left _ h0 h1 hn).mono ?_
    rintro e w' ⟨rfl, rfl⟩
    rw [Hr.out]
    go_wp2
    go_ret
    exact ⟨by rw [Hr.out]; rfl, ext_alloc (ext_refl _) _⟩
  · have Hr := Lib.hid (szR_pos h)
    go_enter Try.func23, Try.ntmps23
    go_wp2_with fail
    refine (laws_szBoundS a n cap left _ h0 h1 hn).mono ?_
    rintro e w' ⟨rfl, rfl⟩
    rw [Hr.out]
    go_wp2
    go_ret
    exact ⟨by rw [Hr.out]; rfl, ext_alloc (ext_refl _) _⟩
set_option maxHeartbeats 400000 in
theorem laws_toBound (b : Bd) (w : World) :
    Calls Try.prog 89 #[b.val] w fun e w' => e = .returned b.val ∧ Below w.heap.size w w' := by
  unfold Bd.val
  go_enter Try.func89, Try.ntmps89
  go_wp2
  refine bodyPost_ret (v := .agg #[.int .i64 b.f, .int .i64 b.t, .int .i64 b.m]) (by simp [results, Try.results89, go_sem, *]) rfl ⟨rfl, ?_⟩
  repeat (first | exact ext_refl _ | (refine ext_trans ?_ (by assumption)) | refine ext_alloc ?_ _ | refine ext_drew ?_ | (refine ext_set ?_ (by first | (simp; done) | (simp; omega)) _))
/-- A slice of bounds that came in: wherever it lies. -/
def ABds (w : World) (a : Option Addr) (n cap : Nat) (l : List Bd) : Prop := l.length = n ∧ n ≤ cap ∧ cap ≤ 9223372036854775807 ∧
  ∀ j, j < n → ∃ b o, a = some ⟨b, o, none⟩ ∧ b < w.heap.size ∧ w.cell? ⟨b, o + j * 3, none⟩ = some (.int .i64 (l.getD j Bd.z).f) ∧ w.cell? ⟨b, o + j * 3 + 1, none⟩ = some (.int .i64 (l.getD j Bd.z).t) ∧ w.cell? ⟨b, o + j * 3 + 2, none⟩ = some (.int .i64 (l.getD j Bd.z).m)
theorem ABds.ext {w w' : World} {a : Option Addr} {n cap : Nat} {l : List Bd} (h : ABds w a n cap l) (hb : Below w.heap.size w w') : ABds w' a n cap l := by
  obtain ⟨h1, h2, h3, h4⟩ := h
  refine ⟨h1, h2, h3, fun j hj => ?_⟩
  obtain ⟨b, o, rfl, g0, g1, g2, g3⟩ := h4 j hj
  exact ⟨b, o, rfl, Nat.lt_of_lt_of_le g0 hb.size, (hb.cell (by exact g0)).trans g1, (hb.cell (by exact g0)).trans g2, (hb.cell (by exact g0)).trans g3⟩
theorem made_bounds (n : Nat) : (madeCells #[Value.int .i64 0, .int .i64 0, .int .i64 0] (n * 3)).toList = bcells (List.replicate n Bd.z) := by
  apply List.ext_getElem?
  intro i
  by_cases hi : i < n * 3
  · obtain ⟨c0, c1, c2⟩ := bcells_at (List.replicate n Bd.z) (i / 3) (by rw [List.length_replicate]; omega)
    have hz : (List.replicate n Bd.z).getD (i / 3) Bd.z = Bd.z := by simp [List.getD_eq_getElem?_getD, List.getElem?_replicate]; split <;> rfl
    rw [hz] at c0 c1 c2
    have e : (madeCells #[Value.int .i64 0, .int .i64 0, .int .i64 0] (n * 3)).toList[i]? = some (Value.int .i64 0) := by
      simp [madeCells, hi]
      have : i % 3 < 3 := Nat.mod_lt _ (by decide)
      match h : i % 3, this with
      | 0, _ => rfl
      | 1, _ => rfl
      | 2, _ => rfl
    rw [e]
    have h3 : i = i / 3 * 3 ∨ i = i / 3 * 3 + 1 ∨ i = i / 3 * 3 + 2 := by omega
    rcases h3 with h3 | h3 | h3 <;> rw [h3]
    · exact c0.symm
    · exact c1.symm
    · exact c2.symm
  · rw [List.getElem?_eq_none (by simp [madeCells]; omega), List.getElem?_eq_none (by rw [bcells_length, List.length_replicate]; omega)]
theorem fill_length {α : Type} (l : List α) (z : α) (n j : Nat) (hl : l.length = n) (hj : j ≤ n) : (l.take j ++ List.replicate (n - j) z).length = n := by
  rw [List.length_append, List.length_take, List.length_replicate]; omega
theorem fill_set {α : Type} (l : List α) (z b : α) (n j : Nat) (hl : l.length = n) (hj : j < n) (hb : l[j]? = some b) : (l.take j ++ List.replicate (n - j) z).set j b = l.take (j+1) ++ List.replicate (n - (j+1)) z := by
  have e : (l.take j).length = j := by rw [List.length_take]; omega
  rw [List.set_append_right _ _ (by omega), e, Nat.sub_self, show n - j = (n - (j+1)) + 1 by omega, List.replicate_succ, List.set_cons_zero, List.take_add_one, hb]
  simp
set_option maxRecDepth 100000 in
set_option maxHeartbeats 1000000 in
theorem laws_toBoundS (a : Option Addr) (n cap : Nat) (l : List Bd) (w : World) (h : ABds w a n cap l) (hn : n ≤ 1048576) :
    Calls Try.prog 62 #[.slice a n cap] w (RetBds w l) := by
  obtain ⟨hl, hcap, hmax, hcell⟩ := h
  obtain ⟨i0, hi, hz0, hz1, hz2⟩ := info_parts info_bound
  have Hi := Lib.hid hi; have Hz0 := Lib.hid hz0; have Hz1 := Lib.hid hz1; have Hz2 := Lib.hid hz2
  have Hl := Lib.hid hl
  clear hi hz0 hz1 hz2 hl
  go_enter Try.func62, Try.ntmps62
  go_wp2_with (at_make; refine wpList_make_full _ rfl (.tmp 6) (.tmp 6) 23 rfl w.heap.size 78 i0 _ 3 Try.underlying23 Hi.out Hz0.out Hz1.out .i64 .i64 n n n rfl rfl rfl rfl (by rw [Hz2.out]; omega) (by unfold maxLen; omega) (Nat.le_refl _) ?_; intro w1 hown hgrow)
  have Hown := Lib.hid hown
  have hb1 := ext_grown (ext_refl w) hgrow (by simp)
  have hz1 := hgrow.size
  clear hown hgrow
  have hbd0 : Bds w1 w.heap.size (.slice (some ⟨w.heap.size, 0, none⟩) n n) (List.replicate n Bd.z) := by
    unfold Bds
    rw [← made_bounds, List.length_replicate]
    exact Hown.out
  go_loopg [4] n (fun m k wr => ∃ j : Nat, j ≤ n ∧ m = n - j ∧ k = .int .i64 j ∧ Bds wr w.heap.size (.slice (some ⟨w.heap.size, 0, none⟩) n n) (l.take j ++ List.replicate (n - j) Bd.z) ∧ Below w.heap.size w wr)
  case atStart => exact ⟨0, by omega, by omega, rfl, by simpa using hbd0, hb1⟩
  case round =>
    obtain ⟨j, hj, hgk, rfl, hbd, hbel⟩ := hrel
    have Hk := Lib.hid hgk; have Hbd := Lib.hid hbd
    have hl := Hl.out
    clear hgk hbd hbd0
    by_cases hlt : j < n
    · obtain ⟨b, o, rfl, g0, g1, g2, g3⟩ := hcell j hlt
      have d0 := (hbel.cell (by exact g0)).trans g1
      have d1 := (hbel.cell (by exact g0)).trans g2
      have d2 := (hbel.cell (by exact g0)).trans g3
      have Hj := Lib.hid (getD_of l j Bd.z (by omega))
      clear g1 g2 g3 hcell hl
      generalize l.getD j Bd.z = b at *
      go_wp2_with fail
      refine (laws_toBound b wr).mono ?_
      rintro e w2 ⟨rfl, hb2⟩
      have Hf := Lib.hid (fill_length l Bd.z n j Hl.out (by omega))
      obtain ⟨g', hg', _, _, hfz, k0, k1, k2⟩ := (Hbd.out.ext hb2).at_ (j := j) (by have := Hf.out; omega)
      cases hg'
      have hbel2 := ext_trans hbel hb2
      unfold Bd.val
      go_wp2_with fail
      go_roundg (n - (j+1))
      case rel =>
        refine ⟨j+1, by omega, rfl, by go_num, ?_, ext_set (ext_set (ext_set hbel2 (by simp) _) (by simp) _) (by simp) _⟩
        rw [← fill_set l Bd.z b n j Hl.out hlt Hj.out]
        exact (Hbd.out.ext hb2).set (by have := Hf.out; omega) b
      case measure => have := Hk.out; omega
    · have hjl : j = n := by omega
      subst hjl
      go_wp2
      go_ret
      refine ⟨_, rfl, ?_, hbel⟩
      have := Hbd.out
      rw [Nat.sub_self, List.replicate_zero, List.append_nil, List.take_of_length_le (by omega)] at this
      exact this
set_option maxRecDepth 100000 in
set_option maxHeartbeats 1000000 in
theorem laws_toPlan (pts : Int) (a : Option Addr) (n cap : Nat) (l : List Bd) (w : World) (h : ABds w a n cap l) (hn : n ≤ 1048576) :
    Calls Try.prog 25 #[.agg #[.int .i64 pts, .slice a n cap]] w (RetPlan w ⟨pts, l⟩) := by
  have H := Lib.hid h
  clear h
  go_enter Try.func25, Try.ntmps25
  go_wp2_with fail
  obtain ⟨W, hW, B0, B1, B2, hs, HB⟩ := three_boxes w #[Value.int .i64 pts, Value.slice a n cap] #[.int .i64 0, .slice none 0 0] #[Value.int .i64 pts, .slice none 0 0] 49 25 25
  rw [← hW.out]
  refine (laws_toBoundS a n cap l _ (H.out.ext HB) hn).mono ?_
  rintro e w1 ⟨v, rfl, hv, hb1⟩
  obtain ⟨av, capv, rfl, -⟩ := hv.open
  have Hv := Lib.hid hv
  clear hv
  obtain ⟨c1, z1⟩ := (B1.ext hb1).rules
  obtain ⟨c2, z2⟩ := (B2.ext hb1).rules
  go_wp2
  refine bodyPost_ret (v := .agg #[.int .i64 pts, .slice av l.length capv]) (by simp [results, Try.results25, go_sem, *]) rfl ?_
  have hz1 := hb1.size
  exact ⟨_, rfl, own_base (own_low (own_low (own_low Hv.out (by simp; omega) _) (by simp; omega) _) (by simp; omega) _) (by omega), ext_set (ext_set (ext_set (ext_trans HB hb1) (by simp; omega) _) (by simp) _) (by simp) _⟩
set_option maxHeartbeats 400000 in
theorem laws_eqBound (a b : Bd) (w : World) :
    Calls Try.prog 90 #[a.val, b.val] w fun e w' => e = .returned (.bool (decide (a = b))) ∧ Below w.heap.size w w' := by
  obtain ⟨a0, a1, a2⟩ := a
  obtain ⟨b0, b1, b2⟩ := b
  unfold Bd.val
  go_enter Try.func90, Try.ntmps90
  go_wp2
  all_goals
    go_ret
    refine ⟨?_, ext_alloc (ext_alloc (ext_refl _) _) _⟩
    simp_all
theorem eq_of_getD (l l' : List Bd) (h : l.length = l'.length) (hall : ∀ j, j < l.length → l.getD j Bd.z = l'.getD j Bd.z) : l = l' := by
  apply List.ext_getElem h
  intro i h1 h2
  have := hall i h1
  simpa [List.getD_eq_getElem?_getD, h1, h2] using this
set_option maxRecDepth 100000 in
set_option maxHeartbeats 1000000 in
theorem laws_eqBoundS (v v' : Value) (l l' : List Bd) (w : World) (hv : Bds w 0 v l) (hv' : Bds w 0 v' l') :
    Calls Try.prog 64 #[v, v'] w fun e w' => e = .returned (.bool (decide (l = l'))) ∧ Below w.heap.size w w' := by
  have Hv := Lib.hid hv; have Hv' := Lib.hid hv'
  obtain ⟨a, cap, rfl, hn, hc, -⟩ := hv.open
  obtain ⟨a', cap', rfl, hn', hc', -⟩ := hv'.open
  clear hv hv'
  by_cases hlen : l.length = l'.length
  · have Hlen := Lib.hid hlen
    have hne : ((l.length : Int) != (l'.length : Int)) = false := by simp [hlen]
    clear hlen
    go_enter Try.func64, Try.ntmps64
    go_wp2_with fail
    go_loopg [5] l.length (fun m k wr => ∃ j : Nat, j ≤ l.length ∧ m = l.length - j ∧ k = .int .i64 j ∧ Below w.heap.size w wr ∧ Hid (∀ i, i < j → l.getD i Bd.z = l'.getD i Bd.z))
    case atStart => exact ⟨0, by omega, by omega, rfl, ext_refl _, fun i hi => by omega⟩
    case round =>
      obtain ⟨j, hj, hgk, rfl, hbel, Hall⟩ := hrel
      have Hk := Lib.hid hgk
      clear hgk
      have hl2 : j ≤ l'.length := by have := Hlen.out; omega
      by_cases hlt : j < l.length
      · have hlt2 : j < l'.length := by have := Hlen.out; omega
        obtain ⟨g, rfl, _, hg, _, k0, k1, k2⟩ := (Hv.out.ext hbel).at_ hlt
        obtain ⟨g', rfl, _, hg', _, m0, m1, m2⟩ := (Hv'.out.ext hbel).at_ hlt2
        obtain ⟨b, Hb⟩ : ∃ b, Hid (b = l.getD j Bd.z) := ⟨_, rfl⟩
        obtain ⟨b', Hb'⟩ : ∃ b, Hid (b = l'.getD j Bd.z) := ⟨_, rfl⟩
        rw [← Hb.out] at k0 k1 k2
        rw [← Hb'.out] at m0 m1 m2
        go_wp2_with fail
        go_region_held3 (fun w' => w'.cell? ⟨g, j*3, none⟩ = some (Value.int .i64 b.f) ∧ w'.cell? ⟨g, j*3+1, none⟩ = some (Value.int .i64 b.t) ∧ w'.cell? ⟨g, j*3+2, none⟩ = some (Value.int .i64 b.m) ∧ w'.cell? ⟨g', j*3, none⟩ = some (Value.int .i64 b'.f) ∧ w'.cell? ⟨g', j*3+1, none⟩ = some (Value.int .i64 b'.t) ∧ w'.cell? ⟨g', j*3+2, none⟩ = some (Value.int .i64 b'.m))
          (first | exact ⟨k0, k1, k2, m0, m1, m2⟩ | exact ⟨(hb2.cell (by exact hg)).trans k0, (hb2.cell (by exact hg)).trans k1, (hb2.cell (by exact hg)).trans k2, (hb2.cell (by exact hg')).trans m0, (hb2.cell (by exact hg')).trans m1, (hb2.cell (by exact hg')).trans m2⟩)
          (first | (go_at_call 90; refine (laws_eqBound b b' _).mono ?_; rintro e w2 ⟨rfl, hb2⟩))
        have hbel2 := ext_trans hbel (ext_trans (ext_drew (ext_refl wr)) hb2)
        by_cases hbb : b = b'
        · rw [decide_eq_true hbb]
          go_wp2
          go_roundg (l.length - (j+1))
          case rel =>
            refine ⟨j+1, by omega, rfl, by go_num, hbel2, fun i hi => ?_⟩
            by_cases hij : i = j
            · subst hij; rw [← Hb.out, ← Hb'.out]; exact hbb
            · exact Hall.out i (by omega)
          case measure => have := Hk.out; omega
        · rw [decide_eq_false hbb]
          go_wp2
          go_ret
          refine ⟨?_, hbel2⟩
          have : ¬ l = l' := fun h => hbb (by rw [Hb.out, Hb'.out, h])
          rw [decide_eq_false this]; rfl
      · have hjl : j = l.length := by omega
        subst hjl
        go_wp2
        go_ret
        refine ⟨?_, hbel⟩
        rw [decide_eq_true (eq_of_getD l l' Hlen.out Hall.out)]; rfl
  · have hne : ((l.length : Int) != (l'.length : Int)) = true := by simp; omega
    have Hlen := Lib.hid hlen
    clear hlen
    go_enter Try.func64, Try.ntmps64
    go_wp2
    go_ret
    refine ⟨?_, ext_refl _⟩
    rw [decide_eq_false (fun h => Hlen.out (by rw [h]))]; rfl
set_option maxHeartbeats 1000000 in
theorem laws_eqPlan (p q : Pl) (v v' : Value) (w : World) (hv : Bds w 0 v p.bs) (hv' : Bds w 0 v' q.bs) :
    Calls Try.prog 28 #[.agg #[.int .i64 p.pts, v], .agg #[.int .i64 q.pts, v']] w fun e w' => e = .returned (.bool (decide (p = q))) ∧ Below w.heap.size w w' := by
  have Hv := Lib.hid hv; have Hv' := Lib.hid hv'
  obtain ⟨a, cap, rfl, hn, hc, -⟩ := hv.open
  obtain ⟨a', cap', rfl, hn', hc', -⟩ := hv'.open
  clear hv hv'
  obtain ⟨pp, l⟩ := p
  obtain ⟨qq, l'⟩ := q
  dsimp only at *
  by_cases hp : pp = qq
  · have hpb : (pp != qq) = false := by simp [hp]
    have Hp := Lib.hid hp
    clear hp
    go_enter Try.func28, Try.ntmps28
    go_wp2_with fail
    refine (laws_eqBoundS _ _ l l' _ (Hv.out.ext (ext_alloc (ext_alloc (ext_refl _) _) _)) (Hv'.out.ext (ext_alloc (ext_alloc (ext_refl _) _) _))).mono ?_
    rintro e w1 ⟨rfl, hb1⟩
    by_cases hl : l = l'
    · rw [decide_eq_true hl]
      go_wp2
      go_ret
      refine ⟨by rw [decide_eq_true (by rw [Hp.out, hl])]; rfl, ?_⟩
      repeat (first | exact ext_refl _ | (refine ext_trans ?_ (by assumption)) | refine ext_alloc ?_ _ | refine ext_drew ?_ | (refine ext_set ?_ (by first | (simp; done) | (simp; omega)) _))
    · rw [decide_eq_false hl]
      go_wp2
      go_ret
      refine ⟨by rw [decide_eq_false (fun h => hl (by injection h))]; rfl, ?_⟩
      repeat (first | exact ext_refl _ | (refine ext_trans ?_ (by assumption)) | refine ext_alloc ?_ _ | refine ext_drew ?_ | (refine ext_set ?_ (by first | (simp; done) | (simp; omega)) _))
  · have hpb : (pp != qq) = true := by simp [hp]
    have Hp := Lib.hid hp
    clear hp
    go_enter Try.func28, Try.ntmps28
    go_wp2
    go_ret
    refine ⟨by rw [decide_eq_false (fun h => Hp.out (by injection h))]; rfl, ?_⟩
    repeat (first | exact ext_refl _ | (refine ext_trans ?_ (by assumption)) | refine ext_alloc ?_ _ | refine ext_drew ?_ | (refine ext_set ?_ (by first | (simp; done) | (simp; omega)) _))
def marks (k : Int) (n : Nat) : List Bd := (List.range n).map fun (i : Nat) => ⟨k + 3 * (i : Int), k + 3 * (i : Int) + 1, k + 3 * (i : Int) + 1 + 1⟩
theorem marks_length (k : Int) (n : Nat) : (marks k n).length = n := by simp [marks]
theorem marks_getD (k : Int) (n j : Nat) (h : j < n) : (marks k n).getD j Bd.z = ⟨k + 3 * j, k + 3 * j + 1, k + 3 * j + 1 + 1⟩ := by simp [marks, List.getD_eq_getElem?_getD, h]
theorem marks_set (k : Int) (l : List Bd) (j : Nat) (h : j < l.length) : (marks k j ++ l.drop j).set j ⟨k + 3 * j, k + 3 * j + 1, k + 3 * j + 1 + 1⟩ = marks k (j+1) ++ l.drop (j+1) := by
  rw [List.set_append_right _ _ (by rw [marks_length]; omega), marks_length, Nat.sub_self, List.drop_eq_getElem_cons h, List.set_cons_zero]
  simp [marks, List.range_succ]
set_option maxRecDepth 100000 in
set_option maxHeartbeats 1000000 in
theorem laws_markBoundS (v : Value) (l : List Bd) (base : Nat) (k : Int) (w : World) (hv : Bds w base v l) (h0 : 0 ≤ k) (h1 : k ≤ 1000000000) (hn : l.length ≤ 4000000) :
    Calls Try.prog 65 #[v, .int .i64 k] w fun e w' => e = .returned (.int .i64 (k + 3 * l.length)) ∧ Bds w' base v (marks k l.length) ∧ w.grownBy w' v.ownBlock := by
  have Hv := Lib.hid hv
  obtain ⟨a, cap, rfl, hcap, hc, -⟩ := hv.open
  clear hv
  go_enter Try.func65, Try.ntmps65
  go_wp2_with fail
  go_loopg [1, 5] l.length (fun m kk i wr => ∃ j : Nat, j ≤ l.length ∧ m = l.length - j ∧ i = .int .i64 j ∧ kk = .int .i64 (k + 3 * j) ∧ Bds wr base (.slice a l.length cap) (marks k j ++ l.drop j) ∧ w.grownBy wr (Value.slice a l.length cap).ownBlock)
  case atStart => exact ⟨0, by omega, by omega, rfl, by simp, by simpa [marks] using Hv.out, World.grownBy.refl _ _⟩
  case round =>
    obtain ⟨j, hj, hgk, rfl, rfl, hbd, hgr⟩ := hrel
    have Hk := Lib.hid hgk; have Hbd := Lib.hid hbd; have Hgr := Lib.hid hgr
    clear hgk hbd hgr
    by_cases hlt : j < l.length
    · have hlen : (marks k j ++ l.drop j).length = l.length := by rw [List.length_append, marks_length, List.length_drop]; omega
      have Hlen := Lib.hid hlen
      obtain ⟨g, rfl, _, hg, hfz, k0, k1, k2⟩ := Hbd.out.at_ (j := j) (by omega)
      clear hlen
      generalize (marks k j ++ l.drop j).getD j Bd.z = b at *
      go_wp2_with fail
      go_roundg (l.length - (j+1))
      case rel =>
        refine ⟨j+1, by omega, rfl, by go_num, ?_, ?_, grown_set (grown_set (grown_set Hgr.out _) _) _⟩
        · rw [show k + 3 * (j : Int) + 1 + 1 + 1 = k + 3 * ((j + 1 : Nat) : Int) by omega]
        · rw [← marks_set k l j hlt]
          exact Hbd.out.set (by have := Hlen.out; omega) ⟨k + 3 * j, k + 3 * j + 1, k + 3 * j + 1 + 1⟩
      case measure => have := Hk.out; omega
    · have hjl : j = l.length := by omega
      subst hjl
      go_wp2
      go_ret
      refine ⟨rfl, ?_, Hgr.out⟩
      have := Hbd.out
      rw [List.drop_length, List.append_nil] at this
      exact this
theorem grown_alloc {w w1 : World} {o : Obj} {row : Option Nat} (h : (w.alloc o).grownBy w1 row) : w.grownBy w1 row :=
  ⟨h.os, h.tape, h.output, by have := h.size; simp at this; omega, fun k hk hne => (h.block k (by simp; omega) hne).trans (Below.heap_alloc w o k hk)⟩
set_option maxHeartbeats 1000000 in
theorem laws_markPlan (pts : Int) (v : Value) (l : List Bd) (base : Nat) (k : Int) (w : World) (hv : Bds w base v l) (h0 : 0 ≤ k) (h1 : k ≤ 1000000000) (hn : l.length ≤ 4000000) :
    Calls Try.prog 29 #[.agg #[.int .i64 pts, v], .int .i64 k] w fun e w' => e = .returned (.int .i64 (k + 3 * l.length)) ∧ Bds w' base v (marks k l.length) ∧ w.grownBy w' v.ownBlock := by
  have Hv := Lib.hid hv
  obtain ⟨a, cap, rfl, hcap, hc, -⟩ := hv.open
  clear hv
  go_enter Try.func29, Try.ntmps29
  go_wp2_with fail
  refine (laws_markBoundS _ l base k _ (Hv.out.alloc _) h0 h1 hn).mono ?_
  rintro e w1 ⟨rfl, hb1, hg1⟩
  have Hb1 := Lib.hid hb1; have Hg1 := Lib.hid hg1
  clear hb1 hg1
  go_wp2
  go_ret
  refine ⟨rfl, Hb1.out, grown_alloc Hg1.out⟩
end Go.Proofs.Ytffcfambgcaikaa
