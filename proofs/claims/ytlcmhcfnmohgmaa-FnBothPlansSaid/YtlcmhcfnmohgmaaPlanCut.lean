/- The walk of slices.Delete of one bound, and of impl.WithoutBound and spec.WithoutBound: both return the plan 'Pl.cut' and the answer 'Pl.cutOk'. Conditions: the bounds can be read, and are at most two million. -/
import Derived.Test.YtlcmhcfnmohgmaaPlanTurn
import Derived.Test.YtlcmhcfnmohgmaaArgs
import Derived.Outline
namespace Go.Proofs.Ytlcmhcfnmohgmaa
open Go.RowKit
set_option linter.unusedVariables false
set_option linter.unusedSimpArgs false
theorem own_prefix {w : World} {base g n m cap : Nat} {e : TypeId} {size : Nat} {xs : List Value} (h : w.ownsRow base e size (.slice (some ⟨g, 0, none⟩) n cap) n xs) (hm : m ≤ n) :
    w.ownsRow base e size (.slice (some ⟨g, 0, none⟩) m cap) m (xs.take (m * size)) := by
  obtain ⟨hl, h⟩ := h
  have hms : m * size ≤ n * size := Nat.mul_le_mul_right _ hm
  refine ⟨by rw [List.length_take]; omega, ?_⟩
  rcases h with ⟨h, _⟩ | ⟨g', cap', cur, he, hg, hh, hn, hc, hs, rfl⟩
  · cases h
  · cases he
    exact .inr ⟨g, cap, cur, rfl, hg, hh, by omega, hc, hs, by rw [List.take_take, Nat.min_eq_left hms]⟩
theorem own_beyond {w : World} {base g n cap : Nat} {e : TypeId} {size : Nat} {xs : List Value} (h : w.ownsRow base e size (.slice (some ⟨g, 0, none⟩) n cap) n xs) (i : Nat) (hi : n * size ≤ i) (u : Value) :
    (w.setCell ⟨g, i, none⟩ u).ownsRow base e size (.slice (some ⟨g, 0, none⟩) n cap) n xs := by
  have := (h.stored i u).1
  rwa [List.set_eq_of_length_le (by rw [h.1]; exact hi)] at this
theorem bcells_take (l : List Bd) (m : Nat) : (bcells l).take (m * 3) = bcells (l.take m) := by
  induction l generalizing m with
  | nil => simp [bcells]
  | cons c l ih =>
    cases m with
    | zero => simp [bcells]
    | succ m =>
      have := ih m
      have e : (m+1)*3 = m*3+1+1+1 := by omega
      simp only [bcells, List.flatMap_cons, Bd.cells, List.cons_append, List.nil_append, e, List.take_succ_cons] at *
      rw [this]
theorem bcells_drop (l : List Bd) (m : Nat) : (bcells l).drop (m * 3) = bcells (l.drop m) := by
  induction l generalizing m with
  | nil => simp [bcells]
  | cons c l ih =>
    cases m with
    | zero => simp [bcells]
    | succ m =>
      have := ih m
      have e : (m+1)*3 = m*3+1+1+1 := by omega
      simp only [bcells, List.flatMap_cons, Bd.cells, List.cons_append, List.nil_append, e, List.drop_succ_cons] at *
      rw [this]
theorem wp_fits {P : Program} {o : Oper} {a : Act} {K : Act → World → Prop} {Q : Exit → Act → World → Prop} (w : World) (s x : Operand) (t : TypeId)
    (ho : o.op = .call { callee := .builtin .append, args := #[s, x], argTypes := #[t, t] })
    (base : Nat) (e : TypeId) (i : TypeInfo) (size : Nat) (ht : P.underlying t = some (.slice e)) (hi : P.info? e = some i) (hsize : i.size = size)
    (g n cap : Nat) (xs : List Value) (hs : a.eval s = .slice (some ⟨g, 0, none⟩) n cap) (hown : w.ownsRow base e size (.slice (some ⟨g, 0, none⟩) n cap) n xs)
    (ad : Addr) (m c : Nat) (news : List Value) (hx : a.eval x = .slice (some ad) m c) (hl : news.length = m * size) (hnews : ∀ j u, news[j]? = some u → w.cell? (ad.add j) = some u) (h1 : ∀ u ∈ news, u.oneCell' = true)
    (hroom : n + m ≤ cap)
    (h : ∀ w', w'.ownsRow base e size (.slice (some ⟨g, 0, none⟩) (n + m) cap) (n + m) (xs ++ news) → w.grownBy w' (some g) → K (a.put o.dst (.slice (some ⟨g, 0, none⟩) (n + m) cap)) w') : o.wp P a w K Q := by
  obtain ⟨w', hr, h2, h3⟩ := run_append_fits (P := P) w base t o.type e i size ht hi hsize g n cap xs hown ad m c news hl hnews h1 hroom
  unfold Oper.wp execOp
  simp only [ho, resolve, invoke, builtin, Sem.run_bind, Sem.run_pure, Result.andThen_ok, List.map_toArray, List.map_cons, List.map_nil, hs, hx, hr]
  exact h w' h2 h3
theorem run_clear1 (w : World) (t ty e : TypeId) (i : TypeInfo) (ht : Try.prog.underlying t = some (.slice e)) (hi : Try.prog.info? e = some i) (hz : i.zero = some (.agg #[.int .i64 0, .int .i64 0, .int .i64 0]))
    (g o c : Nat) (c0 c1 c2 : Value) (h0 : w.cell? ⟨g, o, none⟩ = some c0) (h1 : w.cell? ⟨g, o + 1, none⟩ = some c1) (h2 : w.cell? ⟨g, o + 2, none⟩ = some c2) (hf : ∀ j, w.frozen? ⟨g, j, none⟩ = false) :
    (Builtin.clear_ #[t] ty #[.slice (some ⟨g, o, none⟩) 1 c]).run Try.prog w = .ok (.tuple #[]) (((w.setCell ⟨g, o, none⟩ (.int .i64 0)).setCell ⟨g, o + 1, none⟩ (.int .i64 0)).setCell ⟨g, o + 2, none⟩ (.int .i64 0)) := by
  have hzc : (Builtin.zeroCells #[Value.int .i64 0, .int .i64 0, .int .i64 0] 1).toList = [.int .i64 0, .int .i64 0, .int .i64 0] := by
    simp [Builtin.zeroCells, Array.toList_map, Array.toList_range, List.range_succ]
  have key := run_storeCells_cells (P := Try.prog) g o [Value.int .i64 0, .int .i64 0, .int .i64 0] 0 w (by
    intro j hj
    match j, hj with
    | 0, _ => simp [h0]
    | 1, _ => simp [h1]
    | 2, _ => simp [h2]
    | n + 3, hj => exact absurd hj (by simp)) (fun j _ => hf _) (by intro v hv; simp at hv; subst hv; rfl)
  rw [Nat.add_zero] at key
  have hsz : w.setCells g o [Value.int .i64 0, .int .i64 0, .int .i64 0] = ((w.setCell ⟨g, o, none⟩ (.int .i64 0)).setCell ⟨g, o + 1, none⟩ (.int .i64 0)).setCell ⟨g, o + 2, none⟩ (.int .i64 0) := by
    simp [World.setCells]
  rw [hsz] at key
  simp [Builtin.clear_, run_underlying ht, zeroValue, typeInfo, hi, hz, Value.cells, hzc, key]
theorem own_clear {w : World} {base g n cap : Nat} {xs : List Value} (t ty e e' : TypeId) (i : TypeInfo) (ht : Try.prog.underlying t = some (.slice e)) (hi : Try.prog.info? e = some i) (hz : i.zero = some (.agg #[.int .i64 0, .int .i64 0, .int .i64 0]))
    (h : w.ownsRow base e' 3 (.slice (some ⟨g, 0, none⟩) n cap) n xs) (hroom : n + 1 ≤ cap) (o m c : Nat) (ho : o = n * 3) (hm : m = 1) :
    ∃ w', (Builtin.clear_ #[t] ty #[.slice (some ⟨g, o, none⟩) m c]).run Try.prog w = .ok (.tuple #[]) w' ∧ w'.ownsRow base e' 3 (.slice (some ⟨g, 0, none⟩) n cap) n xs ∧ w.grownBy w' (some g) := by
  subst hm ho
  have hcell : ∀ j, j < 3 → ∃ c, w.cell? ⟨g, n * 3 + j, none⟩ = some c := by
    intro j hj
    obtain ⟨hl, h⟩ := h
    rcases h with ⟨h, _⟩ | ⟨g', cap', cur, he, hg, hh, hn, hc, hs, rfl⟩
    · cases h
    · cases he
      have := (Box.rules (xs := cur) hh).1 (n * 3 + j)
      rw [this]
      have : n * 3 + j < cur.size := by
        have : (n + 1) * 3 ≤ cap * 3 := Nat.mul_le_mul_right _ hroom
        omega
      exact ⟨cur[n * 3 + j], by simp [this]⟩
  have hfr : ∀ j, w.frozen? ⟨g, j, none⟩ = false := by
    intro j
    obtain ⟨hl, h⟩ := h
    rcases h with ⟨h, _⟩ | ⟨g', cap', cur, he, hg, hh, hn, hc, hs, rfl⟩
    · cases h
    · cases he
      exact (Box.rules (xs := cur) hh).2 j
  obtain ⟨c0, h0⟩ := hcell 0 (by omega)
  obtain ⟨c1, h1⟩ := hcell 1 (by omega)
  obtain ⟨c2, h2⟩ := hcell 2 (by omega)
  refine ⟨_, run_clear1 w t ty e i ht hi hz g (n * 3) c c0 c1 c2 h0 h1 h2 hfr, ?_, grown_set (grown_set (grown_set (World.grownBy.refl w _) _) _) _⟩
  exact own_beyond (own_beyond (own_beyond h _ (by omega) _) _ (by omega) _) _ (by omega) _
theorem grown_trans {a w w' : World} {row : Option Nat} (h : a.grownBy w row) (k : w.grownBy w' row) : a.grownBy w' row :=
  ⟨k.os.trans h.os, k.tape.trans h.tape, k.output.trans h.output, Nat.le_trans h.size k.size, fun i hi hne => (k.block i (Nat.lt_of_lt_of_le hi h.size) hne).trans (h.block i hi hne)⟩
def RetCut (w : World) (base : Nat) (v : Value) (l : List Bd) : Ending → World → Prop := fun e w' => ∃ v', e = .returned v' ∧ v'.ownBlock = v.ownBlock ∧ Bds w' base v' l ∧ w.drew.grownBy w' v.ownBlock
set_option maxRecDepth 100000 in
set_option maxHeartbeats 2000000 in
theorem slices_DeleteB (v : Value) (l : List Bd) (base i : Nat) (w : World) (hv : Bds w base v l) (hi : i < l.length) (hlen : l.length ≤ 2000000) :
    Calls Try.prog 61 #[v, .int .i64 i, .int .i64 (i + 1 : Int)] w (RetCut w base v (l.take i ++ l.drop (i+1))) := by
  have Hv := Lib.hid hv
  obtain ⟨a, cap, rfl, hn, hc, -⟩ := hv.open
  obtain ⟨g, rfl, hg0, hg, hfz, -⟩ := hv.at_ hi
  obtain ⟨i0, hi0, hz0, hz1, hz2⟩ := info_parts info_bound
  have Hi := Lib.hid hi0; have Hz0 := Lib.hid hz0; have Hz1 := Lib.hid hz1; have Hz2 := Lib.hid hz2
  clear hv hi0 hz0 hz1 hz2
  obtain ⟨m, hm⟩ : ∃ m, l.length = m + 1 := ⟨l.length - 1, by omega⟩
  have Hm := Lib.hid hm
  rw [hm] at hn hlen hi ⊢
  clear hm
  have hne : ((i : Int) == (i : Int) + 1) = false := by simp; omega
  by_cases hck : cap = i + 1
  · subst hck
    obtain rfl : i = m := by omega
    go_enter Try.func61, Try.ntmps61
    go_wp2_with fail
    refine wp_region_tail 7 (by kernel_rfl) (by kernel_rfl) (fun _ => True) trivial ?_
    intro hHeld
    simp only [List.pop_toArray, List.dropLast]
    refine wpAnyH_take (i := 0) (v := ?_) rfl (by kernel_rfl) (by kernel_rfl) (by kernel_rfl) (fun _ _ _ h => h) (Or.inl ⟨by rfl, fun w' hS' => ?_⟩) (by assumption) ?_
    rotate_left
    · (try dsimp only at hS'); go_simp; (try rw [if_pos (by omega)]); try with_reducible rfl
    try simp only [Act.put, List.getElem_toArray, List.getElem_cons_zero, List.getElem_cons_succ, List.setIfInBounds_toArray, List.set_cons_zero, List.set_cons_succ]
    refine wpAnyH_take (i := 1) (v := ?_) rfl (by kernel_rfl) (by kernel_rfl) (by kernel_rfl) (fun _ _ _ h => h) (Or.inl ⟨by rfl, fun w' hS' => ?_⟩) (by assumption) ?_
    rotate_left
    · (try dsimp only at hS'); go_simp; (try rw [if_pos (by omega)]); try with_reducible rfl
    try simp only [Act.put, List.getElem_toArray, List.getElem_cons_zero, List.getElem_cons_succ, List.setIfInBounds_toArray, List.set_cons_zero, List.set_cons_succ]
    refine wpAnyH_take (i := 2) (v := ?_) rfl (by kernel_rfl) (by kernel_rfl) (by kernel_rfl) (fun _ _ _ h => h) (Or.inl ⟨by rfl, fun w' hS' => ?_⟩) (by assumption) ?_
    rotate_left
    · (try dsimp only at hS'); go_simp; (try rw [if_pos (by omega)]); try with_reducible rfl
    try simp only [Act.put, List.getElem_toArray, List.getElem_cons_zero, List.getElem_cons_succ, List.setIfInBounds_toArray, List.set_cons_zero, List.set_cons_succ]
    refine wpAnyH_take (i := 3) (v := ?_) rfl (by kernel_rfl) (by kernel_rfl) (by kernel_rfl) (fun _ _ _ h => h) (Or.inl ⟨by rfl, fun w' hS' => ?_⟩) (by assumption) ?_
    rotate_left
    · (try dsimp only at hS'); go_simp; (try rw [if_pos (by omega)]); try with_reducible rfl
    try simp only [Act.put, List.getElem_toArray, List.getElem_cons_zero, List.getElem_cons_succ, List.setIfInBounds_toArray, List.set_cons_zero, List.set_cons_succ]
    refine wpAnyH_take (i := 4) (v := ?_) rfl (by kernel_rfl) (by kernel_rfl) (by kernel_rfl) (fun _ _ _ h => h) (Or.inl ⟨by rfl, fun w' hS' => ?_⟩) (by assumption) ?_
    rotate_left
    · (try dsimp only at hS'); go_simp; (try rw [if_pos (by omega)]); try with_reducible rfl
    try simp only [Act.put, List.getElem_toArray, List.getElem_cons_zero, List.getElem_cons_succ, List.setIfInBounds_toArray, List.set_cons_zero, List.set_cons_succ]
    refine wpAnyH_take (i := 5) (v := ?_) rfl (by kernel_rfl) (by kernel_rfl) (by kernel_rfl) (fun _ _ _ h => h) (Or.inl ⟨by rfl, fun w' hS' => ?_⟩) (by assumption) ?_
    rotate_left
    · (try dsimp only at hS'); go_simp; (try rw [if_pos (by omega)]); try with_reducible rfl
    try simp only [Act.put, List.getElem_toArray, List.getElem_cons_zero, List.getElem_cons_succ, List.setIfInBounds_toArray, List.set_cons_zero, List.set_cons_succ]
    refine wpAnyH_ready (rs := [6]) (by kernel_rfl) (by simp) ?_
    refine AllReadyH.cons rfl (fun K' hK => ?_) AllReadyH.nil
    refine if_yes (by rfl) ?_
    try simp only [Act.put, List.getElem_toArray, List.getElem_cons_zero, List.getElem_cons_succ, List.setIfInBounds_toArray, List.set_cons_zero, List.set_cons_succ]
    have hpre : w.ownsRow base 48 3 (.slice (some ⟨g, 0, none⟩) i (i + 1)) i (bcells (l.take i)) := by
      have h := Hv.out
      unfold Bds at h
      rw [Hm.out] at h
      have := own_prefix h (m := i) (by omega)
      rwa [bcells_take] at this
    have hsrc : ∀ j u, (bcells (l.drop (i+1)))[j]? = some u → w.cell? (Addr.add ⟨g, 0, none⟩ j) = some u := by
      intro j u hu
      rw [List.drop_eq_nil_of_le (by rw [Hm.out]; exact Nat.le_refl _)] at hu
      simp [bcells] at hu
    refine wp_fits _ (.tmp 22) (.tmp 25) 23 rfl base 48 i0 3 Try.underlying23 Hi.out Hz1.out g i (i + 1) (bcells (l.take i)) rfl hpre.drew ⟨g, 0, none⟩ 0 0 (bcells (l.drop (i+1))) rfl ?_ hsrc (bcells_one _) ?_ ?_
    · rw [bcells_length, List.length_drop, Hm.out]; omega
    · omega
    intro w1 hown hgrow
    have Hown := Lib.hid hown; have Hgrow := Lib.hid hgrow
    clear hown hgrow hpre hsrc
    refine hK.out _ _ ?_ (fun hHeld => ?_)
    · trivial
    clear hK K'
    try simp only [Act.put, List.getElem_toArray, List.getElem_cons_zero, List.getElem_cons_succ, List.setIfInBounds_toArray, List.set_cons_zero, List.set_cons_succ]
    refine wpAnyH_done (by kernel_rfl) ?_ _
    refine tail_step rfl (fun K' hK => ?_)
    refine if_yes (by rfl) ?_
    try simp only [Act.put, List.getElem_toArray, List.getElem_cons_zero, List.getElem_cons_succ, List.setIfInBounds_toArray, List.set_cons_zero, List.set_cons_succ]
    go_simp
    refine hK _ _ ?_
    clear hK K'
    try simp only [Act.put, List.getElem_toArray, List.getElem_cons_zero, List.getElem_cons_succ, List.setIfInBounds_toArray, List.set_cons_zero, List.set_cons_succ]
    go_wp2_with fail
    obtain ⟨w2, hrun, hown2, hgrow2⟩ := own_clear 23 0 48 _ i0 Try.underlying23 Hi.out Hz0.out Hown.out (by omega) (i * 3) (1) (1) (by omega) (by omega)
    rw [hrun]
    have Hown2 := Lib.hid hown2; have Hgrow2 := Lib.hid hgrow2
    clear hown2 hgrow2 hrun
    simp only [Result.andThen_ok]
    go_wp2_with fail
    go_ret
    have hlen' : (l.take i ++ l.drop (i+1)).length = i + 0 := by rw [List.length_append, List.length_take, List.length_drop, Hm.out]; omega
    refine ⟨_, rfl, rfl, ?_, grown_trans Hgrow.out Hgrow2.out⟩
    show Bds w2 base (.slice (some ⟨g, 0, none⟩) _ _) _
    unfold Bds
    rw [hlen', bcells_append]
    exact Hown2.out
  · go_enter Try.func61, Try.ntmps61
    go_wp2_with fail
    refine wp_region_tail 7 (by kernel_rfl) (by kernel_rfl) (fun _ => True) trivial ?_
    intro hHeld
    simp only [List.pop_toArray, List.dropLast]
    refine wpAnyH_take (i := 0) (v := ?_) rfl (by kernel_rfl) (by kernel_rfl) (by kernel_rfl) (fun _ _ _ h => h) (Or.inl ⟨by rfl, fun w' hS' => ?_⟩) (by assumption) ?_
    rotate_left
    · (try dsimp only at hS'); go_simp; (try rw [if_pos (by omega)]); try with_reducible rfl
    try simp only [Act.put, List.getElem_toArray, List.getElem_cons_zero, List.getElem_cons_succ, List.setIfInBounds_toArray, List.set_cons_zero, List.set_cons_succ]
    refine wpAnyH_take (i := 1) (v := ?_) rfl (by kernel_rfl) (by kernel_rfl) (by kernel_rfl) (fun _ _ _ h => h) (Or.inl ⟨by rfl, fun w' hS' => ?_⟩) (by assumption) ?_
    rotate_left
    · (try dsimp only at hS'); go_simp; (try rw [if_pos (by omega)]); try with_reducible rfl
    try simp only [Act.put, List.getElem_toArray, List.getElem_cons_zero, List.getElem_cons_succ, List.setIfInBounds_toArray, List.set_cons_zero, List.set_cons_succ]
    refine wpAnyH_take (i := 2) (v := ?_) rfl (by kernel_rfl) (by kernel_rfl) (by kernel_rfl) (fun _ _ _ h => h) (Or.inl ⟨by rfl, fun w' hS' => ?_⟩) (by assumption) ?_
    rotate_left
    · (try dsimp only at hS'); go_simp; (try rw [if_pos (by omega)]); try with_reducible rfl
    try simp only [Act.put, List.getElem_toArray, List.getElem_cons_zero, List.getElem_cons_succ, List.setIfInBounds_toArray, List.set_cons_zero, List.set_cons_succ]
    refine wpAnyH_take (i := 3) (v := ?_) rfl (by kernel_rfl) (by kernel_rfl) (by kernel_rfl) (fun _ _ _ h => h) (Or.inl ⟨by rfl, fun w' hS' => ?_⟩) (by assumption) ?_
    rotate_left
    · (try dsimp only at hS'); go_simp; (try rw [if_pos (by omega)]); try with_reducible rfl
    try simp only [Act.put, List.getElem_toArray, List.getElem_cons_zero, List.getElem_cons_succ, List.setIfInBounds_toArray, List.set_cons_zero, List.set_cons_succ]
    refine wpAnyH_take (i := 4) (v := ?_) rfl (by kernel_rfl) (by kernel_rfl) (by kernel_rfl) (fun _ _ _ h => h) (Or.inl ⟨by rfl, fun w' hS' => ?_⟩) (by assumption) ?_
    rotate_left
    · (try dsimp only at hS'); go_simp; (try rw [if_pos (by omega)]); try with_reducible rfl
    try simp only [Act.put, List.getElem_toArray, List.getElem_cons_zero, List.getElem_cons_succ, List.setIfInBounds_toArray, List.set_cons_zero, List.set_cons_succ]
    refine wpAnyH_take (i := 5) (v := ?_) rfl (by kernel_rfl) (by kernel_rfl) (by kernel_rfl) (fun _ _ _ h => h) (Or.inl ⟨by rfl, fun w' hS' => ?_⟩) (by assumption) ?_
    rotate_left
    · (try dsimp only at hS'); go_simp; (try rw [if_pos (by omega)]); try with_reducible rfl
    try simp only [Act.put, List.getElem_toArray, List.getElem_cons_zero, List.getElem_cons_succ, List.setIfInBounds_toArray, List.set_cons_zero, List.set_cons_succ]
    refine wpAnyH_ready (rs := [6]) (by kernel_rfl) (by simp) ?_
    refine AllReadyH.cons rfl (fun K' hK => ?_) AllReadyH.nil
    refine if_yes (by rfl) ?_
    try simp only [Act.put, List.getElem_toArray, List.getElem_cons_zero, List.getElem_cons_succ, List.setIfInBounds_toArray, List.set_cons_zero, List.set_cons_succ]
    have hpre : w.ownsRow base 48 3 (.slice (some ⟨g, 0, none⟩) i (cap)) i (bcells (l.take i)) := by
      have h := Hv.out
      unfold Bds at h
      rw [Hm.out] at h
      have := own_prefix h (m := i) (by omega)
      rwa [bcells_take] at this
    have hsrc : ∀ j u, (bcells (l.drop (i+1)))[j]? = some u → w.cell? (Addr.add ⟨g, (i + 1) * 3, none⟩ j) = some u := by
      intro j u hu
      have h := Hv.out.cells (g := g) rfl
      rw [← bcells_drop, List.getElem?_drop] at hu
      have := h _ _ hu
      rw [add_plain] at this ⊢
      rw [← this]
      congr 2
      omega
    refine wp_fits _ (.tmp 22) (.tmp 25) 23 rfl base 48 i0 3 Try.underlying23 Hi.out Hz1.out g i (cap) (bcells (l.take i)) rfl hpre.drew ⟨g, (i + 1) * 3, none⟩ (m - i) (cap - (i + 1)) (bcells (l.drop (i+1))) rfl ?_ hsrc (bcells_one _) ?_ ?_
    · rw [bcells_length, List.length_drop, Hm.out]; omega
    · omega
    intro w1 hown hgrow
    have Hown := Lib.hid hown; have Hgrow := Lib.hid hgrow
    clear hown hgrow hpre hsrc
    refine hK.out _ _ ?_ (fun hHeld => ?_)
    · trivial
    clear hK K'
    try simp only [Act.put, List.getElem_toArray, List.getElem_cons_zero, List.getElem_cons_succ, List.setIfInBounds_toArray, List.set_cons_zero, List.set_cons_succ]
    refine wpAnyH_done (by kernel_rfl) ?_ _
    refine tail_step rfl (fun K' hK => ?_)
    refine if_yes (by rfl) ?_
    try simp only [Act.put, List.getElem_toArray, List.getElem_cons_zero, List.getElem_cons_succ, List.setIfInBounds_toArray, List.set_cons_zero, List.set_cons_succ]
    go_simp
    refine hK _ _ ?_
    clear hK K'
    try simp only [Act.put, List.getElem_toArray, List.getElem_cons_zero, List.getElem_cons_succ, List.setIfInBounds_toArray, List.set_cons_zero, List.set_cons_succ]
    go_wp2_with fail
    obtain ⟨w2, hrun, hown2, hgrow2⟩ := own_clear 23 0 48 _ i0 Try.underlying23 Hi.out Hz0.out Hown.out (by omega) ((i + (m - i)) * 3) (m + 1 - (i + (m - i))) (cap - (i + (m - i))) (by omega) (by omega)
    rw [hrun]
    have Hown2 := Lib.hid hown2; have Hgrow2 := Lib.hid hgrow2
    clear hown2 hgrow2 hrun
    simp only [Result.andThen_ok]
    go_wp2_with fail
    go_ret
    have hlen' : (l.take i ++ l.drop (i+1)).length = i + (m - i) := by rw [List.length_append, List.length_take, List.length_drop, Hm.out]; omega
    refine ⟨_, rfl, rfl, ?_, grown_trans Hgrow.out Hgrow2.out⟩
    show Bds w2 base (.slice (some ⟨g, 0, none⟩) _ _) _
    unfold Bds
    rw [hlen', bcells_append]
    exact Hown2.out
def Pl.cutOk (p : Pl) (k : Int) : Bool := p.ok && inB k 0 (p.bs.length - 1)
def Pl.cut (p : Pl) (k : Int) : Pl := if p.cutOk k then ⟨p.pts, p.bs.take k.toNat ++ p.bs.drop (k.toNat + 1)⟩ else Pl.zero
theorem cut_no {p : Pl} {k : Int} (h : p.cutOk k = false) : p.cut k = Pl.zero := by simp [Pl.cut, h]
set_option maxRecDepth 100000 in
set_option maxHeartbeats 2000000 in
theorem impl_WithoutBound (p : Pl) (k : Int) (bs : Value) (w : World) (hv : Bds w 0 bs p.bs) (hlen : p.bs.length ≤ 1900000) :
    Calls Try.prog 24 #[.agg #[.int .i64 p.pts, bs], .int .i64 k] w (RetPlanB w (p.cut k) (p.cutOk k)) := by
  have Hv := Lib.hid hv
  obtain ⟨a, cap, rfl, hn, hc, -⟩ := hv.open
  clear hv
  by_cases hok : p.ok = true
  · by_cases hk : inB k 0 (p.bs.length - 1) = true
    · have hkk := (inB_iff _ _ _).1 hk
      obtain ⟨i, rfl⟩ : ∃ i : Nat, k = i := ⟨k.toNat, by omega⟩
      have hans : p.cutOk i = true ∧ p.cut i = ⟨p.pts, p.bs.take i ++ p.bs.drop (i + 1)⟩ := by
        simp [Pl.cut, Pl.cutOk, hok, hk]
      obtain ⟨ha1, ha2⟩ := hans
      rw [ha1, ha2]
      clear ha1 ha2
      go_enter Try.func24, Try.ntmps24
      go_wp2_with fail
      obtain ⟨W, hW, B0, B1, hs, HB⟩ := two_boxes w #[Value.int IntKind.i64 p.pts, Value.slice a p.bs.length cap] #[.int .i64 0, .slice none 0 0] 25 25
      rw [← hW.out]
      refine (impl_PlanOk p _ _ (Hv.out.ext HB)).mono ?_
      rintro e w1 ⟨rfl, hb1⟩
      have B0 := B0.ext hb1
      have B1 := B1.ext hb1
      rw [hok]
      obtain ⟨rc0, rz0⟩ := (B0).rules; have rl0 := (B0).lt
      go_wp2_with (go_at_call 51; refine (impl_in _ _ _ _).mono ?_; rintro e w' ⟨rfl, rfl⟩; rw [hk])
      refine (impl_clone p _ _ (Hv.out.ext (ext_trans HB hb1)) (by omega)).mono ?_
      rintro e w2 ⟨v2, rfl, hv2, hb2⟩
      obtain ⟨a2, cap2, rfl, -⟩ := hv2.open
      have Hv2 := Lib.hid hv2
      have B1 := B1.ext hb2
      have E := ext_trans (ext_trans HB hb1) hb2
      clear hv2 rc0 rz0 rl0
      go_wp2_with fail
      have B2 := Box.new w2 25 #[.int .i64 p.pts, .slice a2 p.bs.length cap2]
      have hz1 := hb1.size
      have hz2 := hb2.size
      obtain ⟨rc2, rz2⟩ := (B2).rules; have rl2 := (B2).lt
      clear rc2 rz2
      obtain ⟨q, hq⟩ : ∃ q : Pl, Hid (q = ⟨p.pts, p.bs.take i ++ p.bs.drop (i + 1)⟩) := ⟨_, rfl⟩
      have hqp : p.pts = q.pts := by rw [hq.out]
      refine (slices_DeleteB (.slice a2 p.bs.length cap2) p.bs w1.heap.size i _ (Hv2.out.alloc _) (by omega) (by omega)).mono ?_
      rintro e w3 ⟨v3, rfl, ho3, hv3, hg3⟩
      rw [← hq.out]
      rw [show p.bs.take i ++ p.bs.drop (i + 1) = q.bs by rw [hq.out]] at hv3
      have hne : ∀ b, b < w1.heap.size ∨ b = w2.heap.size → some b ≠ (Value.slice a2 p.bs.length cap2).ownBlock := fun b hb he => by
        have := Hv2.out.lt b he.symm; omega
      have B2 := B2.drew.grown hg3 (hne _ (.inr rfl))
      have B1 := (B1.alloc (.cells #[.int .i64 p.pts, .slice a2 p.bs.length cap2] 25)).drew.grown hg3 (hne _ (.inl (by omega)))
      have E := ext_grown (ext_drew (ext_alloc E (.cells #[.int .i64 p.pts, .slice a2 p.bs.length cap2] 25))) hg3 (fun k hk => by have := Hv2.out.lt k hk; omega)
      obtain ⟨a3, cap3, rfl, -⟩ := hv3.open
      have Hv3 := Lib.hid hv3
      have hlt3 : ∀ k, (Value.slice a3 q.bs.length cap3).ownBlock = some k → k < w2.heap.size := fun k hk => (Hv2.out.lt k (ho3.symm.trans hk)).2
      have H3 := Lib.hid hlt3
      clear hv3 hg3 hne hlt3 ho3
      rw [hqp] at B2 ⊢
      obtain ⟨rc2, rz2⟩ := (B2).rules; have rl2 := (B2).lt
      obtain ⟨rc1, rz1⟩ := (B1).rules; have rl1 := (B1).lt
      go_wp2_with fail
      refine bodyPost_ret (v := .tuple #[.agg #[.int .i64 q.pts, .slice a3 q.bs.length cap3], .bool true]) (by simp [results, Try.results24, go_sem, *]) rfl ?_
      rw [← hq.out]
      exact ⟨.slice a3 q.bs.length cap3, rfl, own_base (own_low (own_low (own_high Hv3.out H3.out (by simp) _) (by simp; omega) _) (by simp; omega) _) (by omega), ext_set (ext_set (ext_set E (by simp; omega) _) (by simp) _) (by simp) _⟩
    · simp only [Bool.not_eq_true] at hk
      have hno : p.cutOk k = false := by simp [Pl.cutOk, hk]
      have Hno := Lib.hid hno
      clear hno
      go_enter Try.func24, Try.ntmps24
      go_wp2_with fail
      obtain ⟨W, hW, B0, B1, hs, HB⟩ := two_boxes w #[Value.int IntKind.i64 p.pts, Value.slice a p.bs.length cap] #[.int .i64 0, .slice none 0 0] 25 25
      rw [← hW.out]
      refine (impl_PlanOk p _ _ (Hv.out.ext HB)).mono ?_
      rintro e w1 ⟨rfl, hb1⟩
      have B0 := B0.ext hb1
      have B1 := B1.ext hb1
      rw [hok]
      obtain ⟨rc0, rz0⟩ := (B0).rules; have rl0 := (B0).lt
      obtain ⟨rc1, rz1⟩ := (B1).rules; have rl1 := (B1).lt
      go_wp2_with (go_at_call 51; refine (impl_in _ _ _ _).mono ?_; rintro e w' ⟨rfl, rfl⟩; rw [hk])
      refine bodyPost_ret (v := .tuple #[.agg #[.int .i64 0, .slice none 0 0], .bool false]) (by simp [results, Try.results24, go_sem, *]) rfl ?_
      rw [cut_no Hno.out, Hno.out]
      exact ⟨_, rfl, Bds.nil _ _, ext_set (ext_set (ext_trans HB hb1) (by simp) _) (by simp) _⟩
  · simp only [Bool.not_eq_true] at hok
    have hno : p.cutOk k = false := by simp [Pl.cutOk, hok]
    have Hno := Lib.hid hno
    clear hno
    go_enter Try.func24, Try.ntmps24
    go_wp2_with fail
    obtain ⟨W, hW, B0, B1, hs, HB⟩ := two_boxes w #[Value.int IntKind.i64 p.pts, Value.slice a p.bs.length cap] #[.int .i64 0, .slice none 0 0] 25 25
    rw [← hW.out]
    refine (impl_PlanOk p _ _ (Hv.out.ext HB)).mono ?_
    rintro e w1 ⟨rfl, hb1⟩
    have B0 := B0.ext hb1
    have B1 := B1.ext hb1
    rw [hok]
    obtain ⟨rc0, rz0⟩ := (B0).rules; have rl0 := (B0).lt
    obtain ⟨rc1, rz1⟩ := (B1).rules; have rl1 := (B1).lt
    go_wp2_with fail
    refine bodyPost_ret (v := .tuple #[.agg #[.int .i64 0, .slice none 0 0], .bool false]) (by simp [results, Try.results24, go_sem, *]) rfl ?_
    rw [cut_no Hno.out, Hno.out]
    exact ⟨_, rfl, Bds.nil _ _, ext_set (ext_set (ext_trans HB hb1) (by simp) _) (by simp) _⟩
theorem wp_appA {P : Program} {o : Oper} {a : Act} {K : Act → World → Prop} {Q : Exit → Act → World → Prop} (w : World) (s x : Operand) (t : TypeId)
    (ho : o.op = .call { callee := .builtin .append, args := #[s, x], argTypes := #[t, t] })
    (base : Nat) (e : TypeId) (i : TypeInfo) (z : Value) (size bytes : Nat) (ht : P.underlying t = some (.slice e)) (hi : P.info? e = some i) (hz : i.zero = some z)
    (hsize : i.size = size) (hby : i.bytes = bytes) (hzs : z.cells.size = size) (hsz : 0 < size)
    (v : Value) (n : Nat) (xs : List Value) (hs : a.eval s = v) (hown : w.ownsRow base e size v n xs)
    (ad : Addr) (m c : Nat) (ys : List Value) (hx : a.eval x = .slice (some ad) m c) (hl : ys.length = m * size) (hsrc : ∀ j u, ys[j]? = some u → w.cell? (ad.add j) = some u) (h1 : ∀ y ∈ ys, y.oneCell' = true)
    (h63 : n + m ≤ maxLen) (hbytes : (n + m) * bytes ≤ 140737488355328) (hbase : base ≤ w.heap.size)
    (h : ∀ v' w', w'.ownsRow base e size v' (n + m) (xs ++ ys) → w.grownBy w' v.ownBlock → K (a.put o.dst v') w') : o.wp P a w K Q := by
  obtain ⟨v', w', hr, h2, h3, _⟩ := run_append_own (P := P) w base t o.type e i z size bytes ht hi hz hsize hby hzs hsz v n xs hown ad m c ys hl hsrc h1 h63 hbytes hbase
  unfold Oper.wp execOp
  simp only [ho, resolve, invoke, builtin, Sem.run_bind, Sem.run_pure, Result.andThen_ok, List.map_toArray, List.map_cons, List.map_nil, hs, hx, hr]
  exact h v' w' h2 h3
set_option maxRecDepth 100000 in
set_option maxHeartbeats 2000000 in
theorem spec_WithoutBound (p : Pl) (k : Int) (bs : Value) (w : World) (hv : Bds w 0 bs p.bs) (hlen : p.bs.length ≤ 1900000) :
    Calls Try.prog 25 #[.agg #[.int .i64 p.pts, bs], .int .i64 k] w (RetPlanB w (p.cut k) (p.cutOk k)) := by
  have Hv := Lib.hid hv
  obtain ⟨a, cap, rfl, hn, hc, -⟩ := hv.open
  obtain ⟨i0, hi, hz0, hz1, hz2⟩ := info_parts info_bound
  have Hi := Lib.hid hi; have Hz0 := Lib.hid hz0; have Hz1 := Lib.hid hz1; have Hz2 := Lib.hid hz2
  clear hv hi hz0 hz1 hz2
  by_cases hok : p.ok = true
  · by_cases hk : inB k 0 (p.bs.length - 1) = true
    · have hkk := (inB_iff _ _ _).1 hk
      obtain ⟨i, rfl⟩ : ∃ i : Nat, k = i := ⟨k.toNat, by omega⟩
      have hans : p.cutOk i = true ∧ p.cut i = ⟨p.pts, p.bs.take i ++ p.bs.drop (i + 1)⟩ := by
        simp [Pl.cut, Pl.cutOk, hok, hk]
      obtain ⟨ha1, ha2⟩ := hans
      rw [ha1, ha2]
      clear ha1 ha2
      obtain ⟨g, rfl, hg0, hg, -⟩ := Hv.out.at_ (j := i) (by omega)
      have hgw : g < w.heap.size := (Hv.out.lt g rfl).2
      go_enter Try.func25, Try.ntmps25
      go_wp2_with fail
      obtain ⟨W, hW, B0, B1, hs, HB⟩ := two_boxes w #[Value.int IntKind.i64 p.pts, Value.slice (some ⟨g, 0, none⟩) p.bs.length cap] #[.int .i64 0, .slice none 0 0] 25 25
      rw [← hW.out]
      refine (spec_PlanOk p _ _ (Hv.out.ext HB)).mono ?_
      rintro e w1 ⟨rfl, hb1⟩
      have B0 := B0.ext hb1
      have B1 := B1.ext hb1
      rw [hok]
      obtain ⟨rc0, rz0⟩ := (B0).rules; have rl0 := (B0).lt
      obtain ⟨rc1, rz1⟩ := (B1).rules; have rl1 := (B1).lt
      go_wp2_with (go_at_call 58; refine (spec_l1In _ _ _ _).mono ?_; rintro e w' ⟨rfl, rfl⟩; rw [hk])
      have hz1 := hb1.size
      refine wp_region_tail 16 (by kernel_rfl) (by kernel_rfl) (fun w' => w'.cell? ⟨w.heap.size, 0, none⟩ = some (.int .i64 p.pts) ∧ w'.cell? ⟨w.heap.size, 1, none⟩ = some (.slice (some ⟨g, 0, none⟩) p.bs.length cap)) ?_ ?_
      · exact ⟨B0.cell0 rfl, B0.cell0 rfl⟩
      intro hHeld
      simp only [List.pop_toArray, List.dropLast]
      refine wpAnyH_take (i := 0) (v := ?_) rfl (by kernel_rfl) (by kernel_rfl) (by kernel_rfl) (fun _ _ _ h => h) (Or.inl ⟨by rfl, fun w' hS' => ?_⟩) (by assumption) ?_
      rotate_left
      · (try dsimp only at hS'); go_simp; (try rw [if_pos (by omega)]); try with_reducible rfl
      try simp only [Act.put, List.getElem_toArray, List.getElem_cons_zero, List.getElem_cons_succ, List.setIfInBounds_toArray, List.set_cons_zero, List.set_cons_succ]
      refine wpAnyH_take (i := 1) (v := ?_) rfl (by kernel_rfl) (by kernel_rfl) (by kernel_rfl) (fun _ _ _ h => h) (Or.inl ⟨by rfl, fun w' hS' => ?_⟩) (by assumption) ?_
      rotate_left
      · (try dsimp only at hS'); go_simp; (try rw [if_pos (by omega)]); try with_reducible rfl
      try simp only [Act.put, List.getElem_toArray, List.getElem_cons_zero, List.getElem_cons_succ, List.setIfInBounds_toArray, List.set_cons_zero, List.set_cons_succ]
      refine wpAnyH_take (i := 3) (v := ?_) rfl (by kernel_rfl) (by kernel_rfl) (by kernel_rfl) (fun _ _ _ h => h) (Or.inl ⟨by rfl, fun w' hS' => ?_⟩) (by assumption) ?_
      rotate_left
      · (try dsimp only at hS'); go_simp; (try rw [if_pos (by omega)]); try with_reducible rfl
      try simp only [Act.put, List.getElem_toArray, List.getElem_cons_zero, List.getElem_cons_succ, List.setIfInBounds_toArray, List.set_cons_zero, List.set_cons_succ]
      refine wpAnyH_take (i := 4) (v := ?_) rfl (by kernel_rfl) (by kernel_rfl) (by kernel_rfl) (fun _ _ _ h => h) (Or.inl ⟨by rfl, fun w' hS' => ?_⟩) (by assumption) ?_
      rotate_left
      · (try dsimp only at hS'); go_simp; (try rw [if_pos (by omega)]); try with_reducible rfl
      try simp only [Act.put, List.getElem_toArray, List.getElem_cons_zero, List.getElem_cons_succ, List.setIfInBounds_toArray, List.set_cons_zero, List.set_cons_succ]
      refine wpAnyH_take (i := 5) (v := ?_) rfl (by kernel_rfl) (by kernel_rfl) (by kernel_rfl) (fun _ _ _ h => h) (Or.inl ⟨by rfl, fun w' hS' => ?_⟩) (by assumption) ?_
      rotate_left
      · (try dsimp only at hS'); go_simp; (try rw [if_pos (by omega)]); try with_reducible rfl
      try simp only [Act.put, List.getElem_toArray, List.getElem_cons_zero, List.getElem_cons_succ, List.setIfInBounds_toArray, List.set_cons_zero, List.set_cons_succ]
      refine wpAnyH_take (i := 6) (v := ?_) rfl (by kernel_rfl) (by kernel_rfl) (by kernel_rfl) (fun _ _ _ h => h) (Or.inl ⟨by rfl, fun w' hS' => ?_⟩) (by assumption) ?_
      rotate_left
      · (try dsimp only at hS'); go_simp; (try rw [if_pos (by omega)]); try with_reducible rfl
      try simp only [Act.put, List.getElem_toArray, List.getElem_cons_zero, List.getElem_cons_succ, List.setIfInBounds_toArray, List.set_cons_zero, List.set_cons_succ]
      refine wpAnyH_take (i := 8) (v := ?_) rfl (by kernel_rfl) (by kernel_rfl) (by kernel_rfl) (fun _ _ _ h => h) (Or.inl ⟨by rfl, fun w' hS' => ?_⟩) (by assumption) ?_
      rotate_left
      · (try dsimp only at hS'); go_simp; (try rw [if_pos (by omega)]); try with_reducible rfl
      try simp only [Act.put, List.getElem_toArray, List.getElem_cons_zero, List.getElem_cons_succ, List.setIfInBounds_toArray, List.set_cons_zero, List.set_cons_succ]
      refine wpAnyH_take (i := 9) (v := ?_) rfl (by kernel_rfl) (by kernel_rfl) (by kernel_rfl) (fun _ _ _ h => h) (Or.inl ⟨by rfl, fun w' hS' => ?_⟩) (by assumption) ?_
      rotate_left
      · (try dsimp only at hS'); go_simp; (try rw [if_pos (by omega)]); try with_reducible rfl
      try simp only [Act.put, List.getElem_toArray, List.getElem_cons_zero, List.getElem_cons_succ, List.setIfInBounds_toArray, List.set_cons_zero, List.set_cons_succ]
      refine wpAnyH_take (i := 10) (v := ?_) rfl (by kernel_rfl) (by kernel_rfl) (by kernel_rfl) (fun _ _ _ h => h) (Or.inl ⟨by rfl, fun w' hS' => ?_⟩) (by assumption) ?_
      rotate_left
      · (try dsimp only at hS'); go_simp; (try rw [if_pos (by omega)]); try with_reducible rfl
      try simp only [Act.put, List.getElem_toArray, List.getElem_cons_zero, List.getElem_cons_succ, List.setIfInBounds_toArray, List.set_cons_zero, List.set_cons_succ]
      refine wpAnyH_take (i := 11) (v := ?_) rfl (by kernel_rfl) (by kernel_rfl) (by kernel_rfl) (fun _ _ _ h => h) (Or.inl ⟨by rfl, fun w' hS' => ?_⟩) (by assumption) ?_
      rotate_left
      · (try dsimp only at hS'); go_simp; (try rw [if_pos (by omega)]); try with_reducible rfl
      try simp only [Act.put, List.getElem_toArray, List.getElem_cons_zero, List.getElem_cons_succ, List.setIfInBounds_toArray, List.set_cons_zero, List.set_cons_succ]
      rw [show IntKind.i64.wrap ((i : Int) + 1) = (i : Int) + 1 from IntWalk.i64_in _ (by omega)]
      obtain ⟨ad, c2, hbd⟩ : ∃ (ad : Addr) (c2 : Nat), Hid ((if cap = i + 1 then some (⟨g, 0, none⟩ : Addr) else some ⟨g, (i + 1) * 3, none⟩) = some ad ∧ cap - (i + 1) = c2 ∧ ∀ j u, (bcells (p.bs.drop (i+1)))[j]? = some u → w.cell? (ad.add j) = some u) := by
        by_cases hck : cap = i + 1
        · refine ⟨⟨g, 0, none⟩, cap - (i + 1), by simp [hck], rfl, fun j u hu => ?_⟩
          rw [List.drop_eq_nil_of_le (by omega)] at hu
          simp [bcells] at hu
        · refine ⟨⟨g, (i + 1) * 3, none⟩, cap - (i + 1), by simp [hck], rfl, fun j u hu => ?_⟩
          have h := Hv.out.cells (g := g) rfl
          rw [← bcells_drop, List.getElem?_drop] at hu
          have := h _ _ hu
          rw [add_plain] at this ⊢
          rw [← this]
          congr 2
          omega
      refine wpAnyH_take (i := 12) (v := .slice (some ad) (p.bs.length - (i + 1)) c2) rfl (by kernel_rfl) (by kernel_rfl) (by kernel_rfl) (fun _ _ _ h => h) (Or.inl ⟨by rfl, fun w' hS' => ?_⟩) (by assumption) ?_
      · have h1 := hbd.out.1
        have h2 := hbd.out.2.1
        try dsimp only at hS'
        go_simp
        intro hx
        exfalso
        omega
      have H6 := Lib.hid hbd.out.2.2
      clear hbd
      refine wpAnyH_ready (rs := [2]) (by kernel_rfl) (by simp) ?_
      refine AllReadyH.cons rfl (fun K' hK => ?_) AllReadyH.nil
      refine if_yes (by rfl) ?_
      try simp only [Act.put, List.getElem_toArray, List.getElem_cons_zero, List.getElem_cons_succ, List.setIfInBounds_toArray, List.set_cons_zero, List.set_cons_succ]
      go_simp
      refine hK.out _ _ ?_ (fun hHeld => ?_)
      · exact ⟨(B0.alloc _).cell0 rfl, (B0.alloc _).cell0 rfl⟩
      clear hK K'
      try simp only [Act.put, List.getElem_toArray, List.getElem_cons_zero, List.getElem_cons_succ, List.setIfInBounds_toArray, List.set_cons_zero, List.set_cons_succ]
      have hLit := World.ownsRow_lit (base := w1.heap.size) (e := 48) (size := 3) w1.drew #[] 0 (Nat.le_refl _) (by decide) rfl
      have B0 := B0.drew.alloc (.cells #[] 48)
      have B1 := B1.drew.alloc (.cells #[] 48)
      have E := ext_alloc (ext_drew (ext_trans HB hb1)) (.cells #[] 48)
      have hpre : w1.drew.ownsRow 0 48 3 (.slice (some ⟨g, 0, none⟩) i cap) i (bcells (p.bs.take i)) := by
        have h := Hv.out.ext (ext_trans HB hb1)
        unfold Bds at h
        have := own_prefix h (m := i) (by omega)
        rwa [bcells_take] at this
      have hpre := World.ownsRow.alloc hpre (.cells #[] 48)
      refine wpAnyH_ready (rs := [7]) (by kernel_rfl) (by simp) ?_
      refine AllReadyH.cons rfl (fun K' hK => ?_) AllReadyH.nil
      refine if_yes (by rfl) ?_
      try simp only [Act.put, List.getElem_toArray, List.getElem_cons_zero, List.getElem_cons_succ, List.setIfInBounds_toArray, List.set_cons_zero, List.set_cons_succ]
      refine wp_app _ (.tmp 21) (.tmp 25) 23 rfl w1.heap.size 0 48 i0 _ 3 24 Try.underlying23 Hi.out Hz0.out Hz1.out Hz2.out rfl (by decide) (.slice (some ⟨w1.heap.size, 0, none⟩) 0 0) 0 _ rfl hLit (.slice (some ⟨g, 0, none⟩) i cap) i (bcells (p.bs.take i)) rfl hpre (bcells_one _) ?_ ?_ ?_ ?_
      · unfold maxLen; omega
      · omega
      · simp [World.drew]
      intro v2 w2 hown2 hgrow2
      have hne2 : ∀ b, b < w1.heap.size → some b ≠ (Value.slice (some ⟨w1.heap.size, 0, none⟩) 0 0).ownBlock := fun b hb he => by simp [Value.ownBlock] at he; omega
      have B0 := B0.grown hgrow2 (hne2 _ rl0)
      have B1 := B1.grown hgrow2 (hne2 _ rl1)
      have E := ext_grown E hgrow2 (fun k hk => by simp [Value.ownBlock] at hk; omega)
      obtain ⟨a2, cap2, rfl, -⟩ := own_open hown2
      have Hown2 := Lib.hid hown2
      have hs2 := hgrow2.size
      clear hown2 hgrow2 hne2 hpre hLit
      simp only [World.size_alloc, World.size_drew] at hs2
      refine hK.out _ _ ?_ (fun hHeld => ?_)
      · exact ⟨B0.cell0 rfl, B0.cell0 rfl⟩
      clear hK K'
      try simp only [Act.put, List.getElem_toArray, List.getElem_cons_zero, List.getElem_cons_succ, List.setIfInBounds_toArray, List.set_cons_zero, List.set_cons_succ]
      have hsrc : ∀ j u, (bcells (p.bs.drop (i+1)))[j]? = some u → w2.cell? (ad.add j) = some u := fun j u hu => by
        have := H6.out j u hu
        obtain ⟨b, o, hbo, hblt⟩ := addr_plain this
        rw [hbo] at this ⊢
        rw [← this]
        exact E.cell (by exact hblt)
      refine wpAnyH_ready (rs := [13]) (by kernel_rfl) (by simp) ?_
      refine AllReadyH.cons rfl (fun K' hK => ?_) AllReadyH.nil
      refine if_yes (by rfl) ?_
      try simp only [Act.put, List.getElem_toArray, List.getElem_cons_zero, List.getElem_cons_succ, List.setIfInBounds_toArray, List.set_cons_zero, List.set_cons_succ]
      refine wp_appA _ (.tmp 26) (.tmp 31) 23 rfl w1.heap.size 48 i0 _ 3 24 Try.underlying23 Hi.out Hz0.out Hz1.out Hz2.out rfl (by decide) (.slice a2 (0 + i) cap2) (0 + i) _ rfl Hown2.out ad (p.bs.length - (i + 1)) c2 (bcells (p.bs.drop (i+1))) rfl ?_ hsrc (bcells_one _) ?_ ?_ ?_ ?_
      · rw [bcells_length, List.length_drop]
      · unfold maxLen; omega
      · omega
      · omega
      intro v3 w3 hown3 hgrow3
      have hlt3 : ∀ k, (Value.slice a2 (0 + i) cap2).ownBlock = some k → w1.heap.size ≤ k := fun k hk => (own_lt Hown2.out k hk).1
      have hne3 : ∀ b, b < w1.heap.size → some b ≠ (Value.slice a2 (0 + i) cap2).ownBlock := fun b hb he => by have := hlt3 b he.symm; omega
      have B0 := B0.grown hgrow3 (hne3 _ rl0)
      have B1 := B1.grown hgrow3 (hne3 _ rl1)
      have E := ext_grown E hgrow3 (fun k hk => by have := hlt3 k hk; omega)
      obtain ⟨a3, cap3, rfl, -⟩ := own_open hown3
      have Hown3 := Lib.hid hown3
      have hs3 := hgrow3.size
      clear hown3 hgrow3 hne3 hlt3 hsrc
      refine hK.out _ _ ?_ (fun hHeld => ?_)
      · exact ⟨B0.cell0 rfl, B0.cell0 rfl⟩
      clear hK K'
      try simp only [Act.put, List.getElem_toArray, List.getElem_cons_zero, List.getElem_cons_succ, List.setIfInBounds_toArray, List.set_cons_zero, List.set_cons_succ]
      clear rc0 rz0 rc1 rz1
      obtain ⟨rc1, rz1⟩ := (B1).rules; have rl1 := (B1).lt
      refine wpAnyH_take (i := 14) (v := ?_) rfl (by kernel_rfl) (by kernel_rfl) (by kernel_rfl) (fun _ _ _ h => h) (Or.inl ⟨by rfl, fun w' hS' => ?_⟩) (by assumption) ?_
      rotate_left
      · (try dsimp only at hS'); go_simp; (try rw [if_pos (by omega)]); try with_reducible rfl
      try simp only [Act.put, List.getElem_toArray, List.getElem_cons_zero, List.getElem_cons_succ, List.setIfInBounds_toArray, List.set_cons_zero, List.set_cons_succ]
      refine wpAnyH_ready (rs := [15]) (by kernel_rfl) (by simp) ?_
      refine AllReadyH.cons rfl (fun K' hK => ?_) AllReadyH.nil
      refine if_yes (by rfl) ?_
      try simp only [Act.put, List.getElem_toArray, List.getElem_cons_zero, List.getElem_cons_succ, List.setIfInBounds_toArray, List.set_cons_zero, List.set_cons_succ]
      go_simp
      refine hK.out _ _ ?_ (fun hHeld => ?_)
      · exact ⟨B0.cell2 rfl (by simp) (by simp), B0.cell2 rfl (by simp) (by simp)⟩
      clear hK K'
      try simp only [Act.put, List.getElem_toArray, List.getElem_cons_zero, List.getElem_cons_succ, List.setIfInBounds_toArray, List.set_cons_zero, List.set_cons_succ]
      refine wpAnyH_done (by kernel_rfl) ?_ _
      refine tail_step rfl (fun K' hK => ?_)
      refine if_yes (by rfl) ?_
      try simp only [Act.put, List.getElem_toArray, List.getElem_cons_zero, List.getElem_cons_succ, List.setIfInBounds_toArray, List.set_cons_zero, List.set_cons_succ]
      go_simp
      refine hK _ _ ?_
      clear hK K'
      try simp only [Act.put, List.getElem_toArray, List.getElem_cons_zero, List.getElem_cons_succ, List.setIfInBounds_toArray, List.set_cons_zero, List.set_cons_succ]
      go_wp2_with fail
      refine bodyPost_ret (v := .tuple #[.agg #[.int .i64 p.pts, .slice a3 (i + (p.bs.length - (i + 1))) cap3], .bool true]) (by simp [results, Try.results25, go_sem, *]) rfl ?_
      have hlc : (p.bs.take i ++ p.bs.drop (i+1)).length = i + (p.bs.length - (i + 1)) := by rw [List.length_append, List.length_take, List.length_drop]; omega
      have hfin : Bds w3 w1.heap.size (.slice a3 (i + (p.bs.length - (i + 1))) cap3) (p.bs.take i ++ p.bs.drop (i+1)) := by
        unfold Bds
        rw [hlc, bcells_append]
        have := Hown3.out
        rwa [Nat.zero_add, List.nil_append] at this
      exact ⟨_, rfl, own_base (own_low (own_low hfin (by simp; omega) _) (by simp; omega) _) (by omega), ext_set (ext_set E (by simp) _) (by simp) _⟩
    · simp only [Bool.not_eq_true] at hk
      have hno : p.cutOk k = false := by simp [Pl.cutOk, hk]
      have Hno := Lib.hid hno
      clear hno
      go_enter Try.func25, Try.ntmps25
      go_wp2_with fail
      obtain ⟨W, hW, B0, B1, hs, HB⟩ := two_boxes w #[Value.int IntKind.i64 p.pts, Value.slice a p.bs.length cap] #[.int .i64 0, .slice none 0 0] 25 25
      rw [← hW.out]
      refine (spec_PlanOk p _ _ (Hv.out.ext HB)).mono ?_
      rintro e w1 ⟨rfl, hb1⟩
      have B0 := B0.ext hb1
      have B1 := B1.ext hb1
      rw [hok]
      obtain ⟨rc0, rz0⟩ := (B0).rules; have rl0 := (B0).lt
      obtain ⟨rc1, rz1⟩ := (B1).rules; have rl1 := (B1).lt
      go_wp2_with (go_at_call 58; refine (spec_l1In _ _ _ _).mono ?_; rintro e w' ⟨rfl, rfl⟩; rw [hk])
      refine bodyPost_ret (v := .tuple #[.agg #[.int .i64 0, .slice none 0 0], .bool false]) (by simp [results, Try.results25, go_sem, *]) rfl ?_
      rw [cut_no Hno.out, Hno.out]
      exact ⟨_, rfl, Bds.nil _ _, ext_set (ext_set (ext_trans HB hb1) (by simp) _) (by simp) _⟩
  · simp only [Bool.not_eq_true] at hok
    have hno : p.cutOk k = false := by simp [Pl.cutOk, hok]
    have Hno := Lib.hid hno
    clear hno
    go_enter Try.func25, Try.ntmps25
    go_wp2_with fail
    obtain ⟨W, hW, B0, B1, hs, HB⟩ := two_boxes w #[Value.int IntKind.i64 p.pts, Value.slice a p.bs.length cap] #[.int .i64 0, .slice none 0 0] 25 25
    rw [← hW.out]
    refine (spec_PlanOk p _ _ (Hv.out.ext HB)).mono ?_
    rintro e w1 ⟨rfl, hb1⟩
    have B0 := B0.ext hb1
    have B1 := B1.ext hb1
    rw [hok]
    obtain ⟨rc0, rz0⟩ := (B0).rules; have rl0 := (B0).lt
    obtain ⟨rc1, rz1⟩ := (B1).rules; have rl1 := (B1).lt
    go_wp2_with fail
    refine bodyPost_ret (v := .tuple #[.agg #[.int .i64 0, .slice none 0 0], .bool false]) (by simp [results, Try.results25, go_sem, *]) rfl ?_
    rw [cut_no Hno.out, Hno.out]
    exact ⟨_, rfl, Bds.nil _ _, ext_set (ext_set (ext_trans HB hb1) (by simp) _) (by simp) _⟩
end Go.Proofs.Ytlcmhcfnmohgmaa
