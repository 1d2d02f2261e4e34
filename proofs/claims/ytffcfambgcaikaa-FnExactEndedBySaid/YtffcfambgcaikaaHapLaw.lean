/- The walks of the helpers of the exact laws on happenings: copies of the arguments, equality, marks; and how such an argument reads as data. Conditions: at most 1048576 happenings. -/
import Derived.Test.YtffcfambgcaikaaArgs
import Derived.Test.YtffcfambgcaikaaSameHeard
namespace Go.Proofs.Ytffcfambgcaikaa
open Go.RowKit Go.ChangeShapes Go.WideShapes Go.ChangeAt
set_option linter.unusedVariables false
set_option linter.unusedSimpArgs false
set_option maxHeartbeats 400000 in
theorem laws_szHappeningS (a : Option Addr) (n cap : Nat) (left : Int) (w : World) (h0 : 0 ≤ left) (h1 : left ≤ 1048576) (hn : n ≤ 9223372036854775807) :
    Calls Try.prog 24 #[.slice a n cap, .int .i64 left] w fun e w' => e = .returned (.int .i64 (szR left n)) ∧ Below w.heap.size w w' := by
  by_cases h : left - n < 0
  · have Hr := Lib.hid (szR_neg h)
    go_enter Try.func24, Try.ntmps24
    go_wp2
    go_ret
    exact ⟨by rw [Hr.out]; rfl, ext_refl _⟩
  · have Hr := Lib.hid (szR_pos h)
    go_enter Try.func24, Try.ntmps24
    go_wp2
    go_ret
    exact ⟨by rw [Hr.out]; rfl, ext_refl _⟩
set_option maxHeartbeats 400000 in
theorem laws_toHappening (b : Hp) (w : World) :
    Calls Try.prog 63 #[b.val] w fun e w' => e = .returned b.val ∧ Below w.heap.size w w' := by
  unfold Hp.val
  go_enter Try.func63, Try.ntmps63
  go_wp2
  refine bodyPost_ret (v := .agg #[.int .i64 b.pt, .int .i64 b.tm]) (by simp [results, Try.results63, go_sem, *]) rfl ⟨rfl, ?_⟩
  repeat (first | exact ext_refl _ | (refine ext_trans ?_ (by assumption)) | refine ext_alloc ?_ _ | refine ext_drew ?_ | (refine ext_set ?_ (by first | (simp; done) | (simp; omega)) _))
/-- A slice of happenings that came in: wherever it lies. -/
def AHps (w : World) (a : Option Addr) (n cap : Nat) (l : List Hp) : Prop := l.length = n ∧ n ≤ cap ∧ cap ≤ 9223372036854775807 ∧
  ∀ j, j < n → ∃ b o, a = some ⟨b, o, none⟩ ∧ b < w.heap.size ∧ w.cell? ⟨b, o + j * 2, none⟩ = some (.int .i64 (l.getD j Hp.z).pt) ∧ w.cell? ⟨b, o + j * 2 + 1, none⟩ = some (.int .i64 (l.getD j Hp.z).tm)
theorem AHps.ext {w w' : World} {a : Option Addr} {n cap : Nat} {l : List Hp} (h : AHps w a n cap l) (hb : Below w.heap.size w w') : AHps w' a n cap l := by
  obtain ⟨h1, h2, h3, h4⟩ := h
  refine ⟨h1, h2, h3, fun j hj => ?_⟩
  obtain ⟨b, o, rfl, g0, g1, g2⟩ := h4 j hj
  exact ⟨b, o, rfl, Nat.lt_of_lt_of_le g0 hb.size, (hb.cell (by exact g0)).trans g1, (hb.cell (by exact g0)).trans g2⟩
theorem hpcells_len (l : List Hp) : (hpcells l).length = l.length * 2 := by
  induction l with
  | nil => rfl
  | cons b l ih =>
    have e : hpcells (b :: l) = Hp.cells b ++ hpcells l := rfl
    rw [e, List.length_append, ih, List.length_cons]
    have : (Hp.cells b).length = 2 := rfl
    omega
theorem made_hps (n : Nat) : (madeCells #[Value.int .i64 0, .int .i64 0] (n * 2)).toList = hpcells (List.replicate n Hp.z) := by
  apply List.ext_getElem?
  intro i
  by_cases hi : i < n * 2
  · obtain ⟨c0, c1⟩ := hpcells_at (List.replicate n Hp.z) (i / 2) (by rw [List.length_replicate]; omega)
    have hz : (List.replicate n Hp.z).getD (i / 2) Hp.z = Hp.z := by simp [List.getD_eq_getElem?_getD, List.getElem?_replicate]; split <;> rfl
    rw [hz] at c0 c1
    have e : (madeCells #[Value.int .i64 0, .int .i64 0] (n * 2)).toList[i]? = some (Value.int .i64 0) := by
      simp [madeCells, hi]
      have : i % 2 < 2 := Nat.mod_lt _ (by decide)
      match h : i % 2, this with
      | 0, _ => rfl
      | 1, _ => rfl
    rw [e]
    have h3 : i = i / 2 * 2 ∨ i = i / 2 * 2 + 1 := by omega
    rcases h3 with h3 | h3 <;> rw [h3]
    · exact c0.symm
    · exact c1.symm
  · rw [List.getElem?_eq_none (by simp [madeCells]; omega), List.getElem?_eq_none (by rw [hpcells_len, List.length_replicate]; omega)]
theorem getD_ofH (l : List Hp) (j : Nat) (h : j < l.length) : l[j]? = some (l.getD j Hp.z) := by
  rw [List.getD_eq_getElem?_getD, List.getElem?_eq_getElem h]; rfl
set_option maxRecDepth 100000 in
set_option maxHeartbeats 1000000 in
theorem laws_toHappeningS (a : Option Addr) (n cap : Nat) (l : List Hp) (w : World) (h : AHps w a n cap l) (hn : n ≤ 1048576) :
    Calls Try.prog 26 #[.slice a n cap] w fun e w' => ∃ v, e = .returned v ∧ Hps w' w.heap.size v l ∧ Below w.heap.size w w' := by
  obtain ⟨hl, hcap, hmax, hcell⟩ := h
  obtain ⟨i0, hi, hz0, hz1, hz2⟩ := info_parts info_happening
  have Hi := Lib.hid hi; have Hz0 := Lib.hid hz0; have Hz1 := Lib.hid hz1; have Hz2 := Lib.hid hz2
  have Hl := Lib.hid hl
  clear hi hz0 hz1 hz2 hl
  go_enter Try.func26, Try.ntmps26
  go_wp2_with (at_make; refine wpList_make_full _ rfl (.tmp 6) (.tmp 6) 26 rfl w.heap.size 30 i0 _ 2 Try.underlying26 Hi.out Hz0.out Hz1.out .i64 .i64 n n n rfl rfl rfl rfl (by rw [Hz2.out]; omega) (by unfold maxLen; omega) (Nat.le_refl _) ?_; intro w1 hown hgrow)
  have Hown := Lib.hid hown
  have hb1 := ext_grown (ext_refl w) hgrow (by simp)
  have hz1 := hgrow.size
  clear hown hgrow
  have hbd0 : Hps w1 w.heap.size (.slice (some ⟨w.heap.size, 0, none⟩) n n) (List.replicate n Hp.z) := by
    unfold Hps
    rw [← made_hps, List.length_replicate]
    exact Hown.out
  go_loopg [4] n (fun m k wr => ∃ j : Nat, j ≤ n ∧ m = n - j ∧ k = .int .i64 j ∧ Hps wr w.heap.size (.slice (some ⟨w.heap.size, 0, none⟩) n n) (l.take j ++ List.replicate (n - j) Hp.z) ∧ Below w.heap.size w wr)
  case atStart => exact ⟨0, by omega, by omega, rfl, by simpa using hbd0, hb1⟩
  case round =>
    obtain ⟨j, hj, hgk, rfl, hbd, hbel⟩ := hrel
    have Hk := Lib.hid hgk; have Hbd := Lib.hid hbd
    have hl := Hl.out
    clear hgk hbd hbd0
    by_cases hlt : j < n
    · obtain ⟨b, o, rfl, g0, g1, g2⟩ := hcell j hlt
      have d0 := (hbel.cell (by exact g0)).trans g1
      have d1 := (hbel.cell (by exact g0)).trans g2
      have Hj := Lib.hid (getD_ofH l j (by omega))
      clear g1 g2 hcell hl
      generalize l.getD j Hp.z = b at *
      go_wp2_with fail
      refine (laws_toHappening b wr).mono ?_
      rintro e w2 ⟨rfl, hb2⟩
      have Hf := Lib.hid (fill_length l Hp.z n j Hl.out (by omega))
      obtain ⟨g', hg', _, _, hfz, k0, k1⟩ := (Hbd.out.ext hb2).at_ (j := j) (by have := Hf.out; omega)
      cases hg'
      have hbel2 := ext_trans hbel hb2
      unfold Hp.val
      go_wp2_with fail
      go_roundg (n - (j+1))
      case rel =>
        refine ⟨j+1, by omega, rfl, by go_num, ?_, ext_set (ext_set hbel2 (by simp) _) (by simp) _⟩
        rw [← fill_set l Hp.z b n j Hl.out hlt Hj.out]
        exact (Hbd.out.ext hb2).set (by have := Hf.out; omega) b
      case measure => have := Hk.out; omega
    · have hjl : j = n := by omega
      subst hjl
      go_wp2
      go_ret
      refine ⟨_, rfl, ?_, hbel⟩
      have := Hbd.out
      rw [Nat.sub_self, List.replicate_zero, List.append_nil, List.take_of_length_le (by omega)] at this
      exact this
set_option maxHeartbeats 400000 in
theorem laws_eqHappening (a b : Hp) (w : World) :
    Calls Try.prog 39 #[a.val, b.val] w fun e w' => e = .returned (.bool (decide (a = b))) ∧ Below w.heap.size w w' := by
  obtain ⟨a0, a1⟩ := a
  obtain ⟨b0, b1⟩ := b
  unfold Hp.val
  go_enter Try.func39, Try.ntmps39
  go_wp2
  all_goals
    go_ret
    refine ⟨?_, ext_alloc (ext_alloc (ext_refl _) _) _⟩
    simp_all
set_option maxRecDepth 100000 in
set_option maxHeartbeats 1000000 in
theorem laws_eqHappeningS (v v' : Value) (l l' : List Hp) (w : World) (hv : Hps w 0 v l) (hv' : Hps w 0 v' l') :
    Calls Try.prog 27 #[v, v'] w fun e w' => e = .returned (.bool (decide (l = l'))) ∧ Below w.heap.size w w' := by
  have Hv := Lib.hid hv; have Hv' := Lib.hid hv'
  obtain ⟨a, cap, rfl, hn, hc, -⟩ := hv.open
  obtain ⟨a', cap', rfl, hn', hc', -⟩ := hv'.open
  clear hv hv'
  by_cases hlen : l.length = l'.length
  · have Hlen := Lib.hid hlen
    have hne : ((l.length : Int) != (l'.length : Int)) = false := by simp [hlen]
    clear hlen
    go_enter Try.func27, Try.ntmps27
    go_wp2_with fail
    go_loopg [5] l.length (fun m k wr => ∃ j : Nat, j ≤ l.length ∧ m = l.length - j ∧ k = .int .i64 j ∧ Below w.heap.size w wr ∧ Hid (∀ i, i < j → hA l i = hA l' i))
    case atStart => exact ⟨0, by omega, by omega, rfl, ext_refl _, Lib.hid fun i hi => by omega⟩
    case round =>
      obtain ⟨j, hj, hgk, rfl, hbel, Hall⟩ := hrel
      have Hk := Lib.hid hgk
      clear hgk
      have hl2 : j ≤ l'.length := by have := Hlen.out; omega
      by_cases hlt : j < l.length
      · have hlt2 : j < l'.length := by have := Hlen.out; omega
        obtain ⟨g, rfl, _, hg, _, k0, k1⟩ := (Hv.out.ext hbel).at_ hlt
        obtain ⟨g', rfl, _, hg', _, m0, m1⟩ := (Hv'.out.ext hbel).at_ hlt2
        obtain ⟨b, Hb⟩ : ∃ b, Hid (b = hA l j) := ⟨_, rfl⟩
        obtain ⟨b', Hb'⟩ : ∃ b, Hid (b = hA l' j) := ⟨_, rfl⟩
        rw [show l.getD j Hp.z = b from Hb.out.symm] at k0 k1
        rw [show l'.getD j Hp.z = b' from Hb'.out.symm] at m0 m1
        go_wp2_with fail
        go_region_held3 (fun w' => w'.cell? ⟨g, j*2, none⟩ = some (Value.int .i64 b.pt) ∧ w'.cell? ⟨g, j*2+1, none⟩ = some (Value.int .i64 b.tm) ∧ w'.cell? ⟨g', j*2, none⟩ = some (Value.int .i64 b'.pt) ∧ w'.cell? ⟨g', j*2+1, none⟩ = some (Value.int .i64 b'.tm))
          (first | exact ⟨k0, k1, m0, m1⟩ | exact ⟨(hb2.cell (by exact hg)).trans k0, (hb2.cell (by exact hg)).trans k1, (hb2.cell (by exact hg')).trans m0, (hb2.cell (by exact hg')).trans m1⟩)
          (first | (go_at_call 39; refine (laws_eqHappening b b' _).mono ?_; rintro e w2 ⟨rfl, hb2⟩))
        have hbel2 := ext_trans hbel (ext_trans (ext_drew (ext_refl wr)) hb2)
        by_cases hbb : b = b'
        · rw [decide_eq_true hbb]
          go_wp2
          go_roundg (l.length - (j+1))
          case rel =>
            refine ⟨j+1, by omega, rfl, by go_num, hbel2, Lib.hid fun i hi => ?_⟩
            by_cases hij : i = j
            · subst hij; rw [← Hb.out, ← Hb'.out]; exact hbb
            · exact Hall.out i (by omega)
          case measure => have := Hk.out; omega
        · rw [decide_eq_false hbb]
          go_wp2
          go_ret
          refine ⟨?_, hbel2⟩
          have : ¬ l = l' := fun h => hbb (by rw [Hb.out, Hb'.out, h])
          rw [decide_eq_false this]; rfl
      · have hjl : j = l.length := by omega
        subst hjl
        go_wp2
        go_ret
        refine ⟨?_, hbel⟩
        rw [decide_eq_true (eq_of_getH l l' Hlen.out Hall.out)]; rfl
  · have hne : ((l.length : Int) != (l'.length : Int)) = true := by simp; omega
    have Hlen := Lib.hid hlen
    clear hlen
    go_enter Try.func27, Try.ntmps27
    go_wp2
    go_ret
    refine ⟨?_, ext_refl _⟩
    rw [decide_eq_false (fun h => Hlen.out (by rw [h]))]; rfl
def marksH (k : Int) (n : Nat) : List Hp := (List.range n).map fun (i : Nat) => ⟨k + 2 * (i : Int), k + 2 * (i : Int) + 1⟩
theorem marksH_length (k : Int) (n : Nat) : (marksH k n).length = n := by simp [marksH]
theorem marksH_getD (k : Int) (n j : Nat) (h : j < n) : (marksH k n).getD j Hp.z = ⟨k + 2 * j, k + 2 * j + 1⟩ := by simp [marksH, List.getD_eq_getElem?_getD, h]
theorem marksH_set (k : Int) (l : List Hp) (j : Nat) (h : j < l.length) : (marksH k j ++ l.drop j).set j ⟨k + 2 * j, k + 2 * j + 1⟩ = marksH k (j+1) ++ l.drop (j+1) := by
  rw [List.set_append_right _ _ (by rw [marksH_length]; omega), marksH_length, Nat.sub_self, List.drop_eq_getElem_cons h, List.set_cons_zero]
  simp [marksH, List.range_succ]
set_option maxRecDepth 100000 in
set_option maxHeartbeats 1000000 in
theorem laws_markHappeningS (v : Value) (l : List Hp) (base : Nat) (k : Int) (w : World) (hv : Hps w base v l) (h0 : 0 ≤ k) (h1 : k ≤ 1000000000) (hn : l.length ≤ 4000000) :
    Calls Try.prog 30 #[v, .int .i64 k] w fun e w' => e = .returned (.int .i64 (k + 2 * l.length)) ∧ Hps w' base v (marksH k l.length) ∧ w.grownBy w' v.ownBlock := by
  have Hv := Lib.hid hv
  obtain ⟨a, cap, rfl, hcap, hc, -⟩ := hv.open
  clear hv
  go_enter Try.func30, Try.ntmps30
  go_wp2_with fail
  go_loopg [1, 5] l.length (fun m kk i wr => ∃ j : Nat, j ≤ l.length ∧ m = l.length - j ∧ i = .int .i64 j ∧ kk = .int .i64 (k + 2 * j) ∧ Hps wr base (.slice a l.length cap) (marksH k j ++ l.drop j) ∧ w.grownBy wr (Value.slice a l.length cap).ownBlock)
  case atStart => exact ⟨0, by omega, by omega, rfl, by simp, by simpa [marksH] using Hv.out, World.grownBy.refl _ _⟩
  case round =>
    obtain ⟨j, hj, hgk, rfl, rfl, hbd, hgr⟩ := hrel
    have Hk := Lib.hid hgk; have Hbd := Lib.hid hbd; have Hgr := Lib.hid hgr
    clear hgk hbd hgr
    by_cases hlt : j < l.length
    · have hlen : (marksH k j ++ l.drop j).length = l.length := by rw [List.length_append, marksH_length, List.length_drop]; omega
      have Hlen := Lib.hid hlen
      obtain ⟨g, rfl, _, hg, hfz, k0, k1⟩ := Hbd.out.at_ (j := j) (by omega)
      clear hlen
      generalize (marksH k j ++ l.drop j).getD j Hp.z = b at *
      go_wp2_with fail
      go_roundg (l.length - (j+1))
      case rel =>
        refine ⟨j+1, by omega, rfl, by go_num, ?_, ?_, grown_set (grown_set Hgr.out _) _⟩
        · rw [show k + 2 * (j : Int) + 1 + 1 = k + 2 * ((j + 1 : Nat) : Int) by omega]
        · rw [← marksH_set k l j hlt]
          exact Hbd.out.set (by have := Hlen.out; omega) ⟨k + 2 * j, k + 2 * j + 1⟩
      case measure => have := Hk.out; omega
    · have hjl : j = l.length := by omega
      subst hjl
      go_wp2
      go_ret
      refine ⟨rfl, ?_, Hgr.out⟩
      have := Hbd.out
      rw [List.drop_length, List.append_nil] at this
      exact this
set_option maxRecDepth 100000 in
set_option maxHeartbeats 1000000 in
theorem laws_heldHappeningS (v : Value) (n : Nat) (k : Int) (w : World) (hv : Hps w 0 v (marksH k n)) (h0 : 0 ≤ k) (h1 : k ≤ 1000000000) (hn : n ≤ 4000000) :
    Calls Try.prog 31 #[v, .int .i64 k] w fun e w' => e = .returned (.int .i64 (k + 2 * n)) ∧ Below w.heap.size w w' := by
  have Hv := Lib.hid hv
  obtain ⟨a, cap, rfl, hcap, hc, -⟩ := hv.open
  clear hv
  rw [marksH_length] at *
  go_enter Try.func31, Try.ntmps31
  go_wp2_with fail
  go_loopg [1, 5] n (fun m kk i wr => ∃ j : Nat, j ≤ n ∧ m = n - j ∧ i = .int .i64 j ∧ kk = .int .i64 (k + 2 * j) ∧ wr = w)
  case atStart => exact ⟨0, by omega, by omega, rfl, by simp, rfl⟩
  case round =>
    obtain ⟨j, hj, hgk, rfl, rfl, rfl⟩ := hrel
    have Hk := Lib.hid hgk
    clear hgk
    by_cases hlt : j < n
    · obtain ⟨g, rfl, _, hg, hfz, k0, k1⟩ := Hv.out.at_ (j := j) (by rw [marksH_length]; omega)
      rw [marksH_getD k n j hlt] at k0 k1
      dsimp only at k0 k1
      go_wp2_with fail
      go_roundg (n - (j+1))
      case rel =>
        refine ⟨j+1, by omega, rfl, by go_num, ?_, rfl⟩
        rw [show k + 2 * (j : Int) + 1 + 1 = k + 2 * ((j + 1 : Nat) : Int) by omega]
      case measure => have := Hk.out; omega
    · have hjl : j = n := by omega
      subst hjl
      go_wp2
      go_ret
      exact ⟨rfl, ext_refl _⟩
theorem list2h (l : List Value) (h : l.length = 2) : ∃ a b, l = [a, b] := by
  match l, h with
  | [a, b], _ => exact ⟨a, b, rfl⟩
theorem cellsLH : Try.prog.cellsOf 84 = 2 := by kernel_rfl
set_option maxRecDepth 100000 in
theorem arg_happenings {H : Type} {enc : TypeId × Value → H} {W : World} {base : Nat} {r : Reach} {v : Value} {d : DataW H} {p : List MemPlace}
    (hv : Value.okWide Try.prog W r base 50 v) (h : DataW.Trod enc Try.prog W 0 (fun _ => true) true 50 v d p) :
    ∃ a n cap l, v = .slice a n cap ∧ AHps W a n cap l := by
  obtain ⟨a1, n1, cap1, rfl⟩ := okWide_slice Try.underlying50 hv
  obtain ⟨fuel, hf⟩ := h
  rcases Deep.open_slice Try.underlying50 hf with ⟨hv, -⟩ | ⟨a, len, cap, m, f, D, Pl, hv, -, hl, hm, hmm, -, hel⟩
  · simp [Value.cells] at hv
    obtain ⟨rfl, rfl, rfl⟩ := hv
    exact ⟨none, 0, 0, [], rfl, rfl, Nat.le_refl _, by omega, fun j hj => by omega⟩
  · simp [Value.cells] at hv
    obtain ⟨rfl, rfl, rfl⟩ := hv
    unfold maxLen at hm
    have each : ∀ j, j < n1 → ∃ b : Hp, W.cell? (a.add (j * 2)) = some (.int .i64 b.pt) ∧ W.cell? (a.add (j * 2 + 1)) = some (.int .i64 b.tm) := by
      intro j hj
      obtain ⟨cs, hcs, ht⟩ := hel j (by rw [hmm]; show j < (if true = true then cap1 else n1); rw [if_pos rfl]; omega)
      rw [cellsLH] at hcs
      obtain ⟨h1, h2⟩ := cells_at hcs
      obtain ⟨y0, y1, n', -, -, t0, t1⟩ := trod_struct2 Try.underlying84 ht
      obtain ⟨c0, c1, rfl⟩ := list2h cs h1
      obtain ⟨x0, e0, -⟩ := DataW.trod_int Try.underlying3 t0
      obtain ⟨x1, e1, -⟩ := DataW.trod_int Try.underlying3 t1
      rw [cellsI] at e0 e1
      simp at e0 e1
      subst e0 e1
      have g0 := h2 0 (by decide); have g1 := h2 1 (by decide)
      rw [Deep.add_add] at g0 g1
      exact ⟨⟨x0, x1⟩, by simpa using g0, by simpa using g1⟩
    obtain ⟨f, hf⟩ := Deep.choose_lt (α := Hp) each
    refine ⟨some a, n1, cap1, (List.range n1).map f, rfl, by simp, hl, hm, fun j hj => ?_⟩
    obtain ⟨k0, -⟩ := hf 0 (by omega)
    obtain ⟨b, o, rfl, hb⟩ := addr_plain (by simpa using k0)
    obtain ⟨k0, k1⟩ := hf j hj
    rw [add_plain] at k0 k1
    have e : ((List.range n1).map f).getD j Hp.z = f j := by simp [List.getD_eq_getElem?_getD, hj]
    rw [e]
    exact ⟨b, o, rfl, hb, k0, by simpa [Nat.add_assoc] using k1⟩
end Go.Proofs.Ytffcfambgcaikaa
