/- The walks of the plan of own points: own, l8Strong, StrongPlan of both. Condition: the deal can be read, and is one where it is asked. -/
import Derived.Test.YtlcmhcfnmohgmaaDealOk
import Derived.Test.YtlcmhcfnmohgmaaPlanMk
import Derived.Test.YtlcmhcfnmohgmaaTailb
namespace Go.Proofs.Ytlcmhcfnmohgmaa
open Go.RowKit
set_option linter.unusedVariables false
set_option linter.unusedSimpArgs false
theorem bcells_setT (l : List Bd) (j : Nat) (x : Int) (h : j < l.length) : (bcells l).set (j * 3 + 1) (.int .i64 x) = bcells (l.set j ⟨(l.getD j Bd.z).f, x, (l.getD j Bd.z).m⟩) := by
  induction l generalizing j with
  | nil => simp at h
  | cons c l ih =>
    cases j with
    | zero => simp [bcells, Bd.cells]
    | succ j =>
      have := ih j (by simpa using h)
      have e : (j+1)*3 = j*3+1+1+1 := by omega
      simp only [bcells, List.flatMap_cons, Bd.cells, List.cons_append, List.nil_append, e, List.set_cons_succ, List.getD_cons_succ] at *
      rw [this]
theorem bcells_setF (l : List Bd) (j : Nat) (x : Int) (h : j < l.length) : (bcells l).set (j * 3) (.int .i64 x) = bcells (l.set j ⟨x, (l.getD j Bd.z).t, (l.getD j Bd.z).m⟩) := by
  induction l generalizing j with
  | nil => simp at h
  | cons c l ih =>
    cases j with
    | zero => simp [bcells, Bd.cells]
    | succ j =>
      have := ih j (by simpa using h)
      have e : (j+1)*3 = j*3+1+1+1 := by omega
      simp only [bcells, List.flatMap_cons, Bd.cells, List.cons_append, List.nil_append, e, List.set_cons_succ, List.getD_cons_succ] at *
      rw [this]
theorem bd_getD_set (M : List Bd) (i : Nat) (c : Bd) (h : i < M.length) : (M.set i c).getD i Bd.z = c := by
  rw [List.getD_eq_getElem?_getD, List.getElem?_set, if_pos rfl, if_pos h]; rfl
theorem Bds.putT {w : World} {base n g cap : Nat} {M : List Bd} {i : Nat} {c : Bd} (h : Bds w base (.slice (some ⟨g, 0, none⟩) n cap) (M.set i c)) (hi : i < M.length) (x : Int) :
    Bds (w.setCell ⟨g, i * 3 + 1, none⟩ (.int .i64 x)) base (.slice (some ⟨g, 0, none⟩) n cap) (M.set i ⟨c.f, x, c.m⟩) := by
  obtain ⟨a', cap', he, -⟩ := h.open
  cases he
  have e := bcells_setT (M.set i c) i x (by rw [List.length_set]; exact hi)
  rw [bd_getD_set M i c hi, List.set_set] at e
  unfold Bds at *
  rw [← e]
  simp only [List.length_set] at h ⊢
  exact (h.stored _ _).1
theorem Bds.putF {w : World} {base n g cap : Nat} {M : List Bd} {i : Nat} {c : Bd} (h : Bds w base (.slice (some ⟨g, 0, none⟩) n cap) (M.set i c)) (hi : i < M.length) (x : Int) :
    Bds (w.setCell ⟨g, i * 3, none⟩ (.int .i64 x)) base (.slice (some ⟨g, 0, none⟩) n cap) (M.set i ⟨x, c.t, c.m⟩) := by
  obtain ⟨a', cap', he, -⟩ := h.open
  cases he
  have e := bcells_setF (M.set i c) i x (by rw [List.length_set]; exact hi)
  rw [bd_getD_set M i c hi, List.set_set] at e
  unfold Bds at *
  rw [← e]
  simp only [List.length_set] at h ⊢
  exact (h.stored _ _).1
theorem Bds.putM {w : World} {base n g cap : Nat} {M : List Bd} {i : Nat} {c : Bd} (h : Bds w base (.slice (some ⟨g, 0, none⟩) n cap) (M.set i c)) (hi : i < M.length) (x : Int) :
    Bds (w.setCell ⟨g, i * 3 + 2, none⟩ (.int .i64 x)) base (.slice (some ⟨g, 0, none⟩) n cap) (M.set i ⟨c.f, c.t, x⟩) := by
  obtain ⟨a', cap', he, -⟩ := h.open
  cases he
  have e := bcells_setM (M.set i c) i x (by rw [List.length_set]; exact hi)
  rw [bd_getD_set M i c hi, List.set_set] at e
  unfold Bds at *
  rw [← e]
  simp only [List.length_set] at h ⊢
  exact (h.stored _ _).1
theorem Bds.atSet {w : World} {base n cap : Nat} {a : Option Addr} {M : List Bd} {i : Nat} {c : Bd} (h : Bds w base (.slice a n cap) (M.set i c)) (hi : i < M.length) :
    ∃ g, a = some ⟨g, 0, none⟩ ∧ base ≤ g ∧ g < w.heap.size ∧ (∀ i, w.frozen? ⟨g, i, none⟩ = false) ∧
      w.cell? ⟨g, i * 3, none⟩ = some (.int .i64 c.f) ∧ w.cell? ⟨g, i * 3 + 1, none⟩ = some (.int .i64 c.t) ∧ w.cell? ⟨g, i * 3 + 2, none⟩ = some (.int .i64 c.m) := by
  have := h.at_ (j := i) (by rw [List.length_set]; exact hi)
  rw [bd_getD_set M i c hi] at this
  exact this
theorem deal_use {p : Pl} {l : List Pr} (h : dealOk p l = true) : p.ok = true ∧ p.bs.length ≤ 12 ∧ l.length ≤ 2 ∧ ∀ i, i < l.length → prOk p.pts (l.getD i Pr.z) = true ∧ ∀ k, k < l.length → prFar l i k = true := by
  simp only [dealOk, Bool.and_eq_true, decide_eq_true_eq, List.all_eq_true, List.mem_range] at h
  exact ⟨h.1, h.2.1, h.2.2.1, h.2.2.2⟩
theorem deal_nums {p : Pl} {l : List Pr} (h : dealOk p l = true) : ∀ i, i < l.length → 0 ≤ (l.getD i Pr.z).lo ∧ (l.getD i Pr.z).lo ≤ (l.getD i Pr.z).hi ∧ (l.getD i Pr.z).hi ≤ 12 := by
  intro i hi
  have := ((deal_use h).2.2.2 i hi).1
  simp only [prOk, Bool.and_eq_true, inB_iff] at this
  omega
theorem ok_nums {p : Pl} (h : p.ok = true) : ∀ i, i < p.bs.length → -99 ≤ (p.bs.getD i Bd.z).m ∧ (p.bs.getD i Bd.z).m ≤ 99 := by
  intro i hi
  simp only [Pl.ok, Bool.and_eq_true, List.all_eq_true] at h
  have := h.2.2 (p.bs.getD i Bd.z) (by rw [List.getD_eq_getElem?_getD, List.getElem?_eq_getElem hi]; exact List.getElem_mem hi)
  simp only [Bd.ok, Bool.and_eq_true, inB_iff] at this
  omega
def stepT (o c : Bd) (x : Pr) : Bd := if o.t = x.t then ⟨c.f, x.f, c.m - x.hi⟩ else c
def stepF (o c : Bd) (x : Pr) : Bd := if o.f = x.t then ⟨x.f, c.t, c.m + x.lo⟩ else c
def stepI (o c : Bd) (x : Pr) : Bd := stepF o (stepT o c x) x
def stepS (c : Bd) (x : Pr) : Bd := stepF (stepT c c x) (stepT c c x) x
def curI (o : Bd) (l : List Pr) (k : Nat) : Bd := (l.take k).foldl (stepI o) o
def curS (o : Bd) (l : List Pr) (k : Nat) : Bd := (l.take k).foldl stepS o
def strI (l : List Pr) (o : Bd) : Bd := if o.f = o.t then o else curI o l l.length
def strS (l : List Pr) (o : Bd) : Bd := if o.f = o.t then o else curS o l l.length
theorem pr_getD (l : List Pr) (k : Nat) (h : k < l.length) : l[k]? = some (l.getD k Pr.z) := by simp [h]
theorem curI_succ (o : Bd) (l : List Pr) (k : Nat) (h : k < l.length) : curI o l (k+1) = stepI o (curI o l k) (l.getD k Pr.z) := by
  unfold curI
  rw [List.take_add_one, pr_getD l k h, List.foldl_append]
  rfl
theorem curS_succ (o : Bd) (l : List Pr) (k : Nat) (h : k < l.length) : curS o l (k+1) = stepS (curS o l k) (l.getD k Pr.z) := by
  unfold curS
  rw [List.take_add_one, pr_getD l k h, List.foldl_append]
  rfl
theorem step_num {o c : Bd} {x : Pr} {B : Int} (h0 : -B ≤ c.m) (h1 : c.m ≤ B) (hx : 0 ≤ x.lo ∧ x.lo ≤ x.hi ∧ x.hi ≤ 12) : -(B+24) ≤ (stepF o (stepT o c x) x).m ∧ (stepF o (stepT o c x) x).m ≤ B + 24 := by
  unfold stepF stepT
  split <;> split <;> (try dsimp only) <;> omega
theorem strong_eq {p : Pl} {l : List Pr} (h : dealOk p l = true) (o : Bd) : strI l o = strS l o := by
  obtain ⟨h1, h2, h3, h4⟩ := deal_use h
  unfold strI strS
  split
  · rfl
  · rename_i hft
    match l, h3, h4 with
    | [], _, _ => rfl
    | [x], _, h4 =>
      have hx := (h4 0 (by simp)).1
      simp [prOk] at hx
      have hx1 : ¬ x.f = x.t := hx.2.2.1
      simp only [curI, curS, List.length_singleton, List.take_succ_cons, List.take_zero, List.foldl_cons, List.foldl_nil, stepI, stepS]
      unfold stepF stepT
      by_cases e1 : o.t = x.t <;> by_cases e2 : o.f = x.t <;> simp [e1, e2]
    | [x, y], _, h4 =>
      have hx := (h4 0 (by simp)).1
      have hy := (h4 1 (by simp)).1
      have f1 := (h4 0 (by simp)).2 1 (by simp)
      have f2 := (h4 1 (by simp)).2 0 (by simp)
      simp [prOk] at hx hy
      simp [prFar] at f1 f2
      have hx1 : ¬ x.f = x.t := hx.2.2.1
      have hy1 : ¬ y.f = y.t := hy.2.2.1
      have g1 : ¬ x.t = y.f := f1.1
      have g2 : ¬ x.t = y.t := f1.2
      have g3 : ¬ y.t = x.f := f2.1
      have g3' : ¬ x.f = y.t := fun e => g3 e.symm
      have g2' : ¬ y.t = x.t := fun e => g2 e.symm
      simp only [curI, curS, List.length_cons, List.length_nil, List.take_succ_cons, List.take_zero, List.foldl_cons, List.foldl_nil, stepI, stepS]
      unfold stepF stepT
      by_cases e1 : o.t = x.t <;> by_cases e2 : o.f = x.t <;> by_cases e3 : o.t = y.t <;> by_cases e4 : o.f = y.t <;> simp_all
/-- the row while own goes over it -/
def mixI (l : List Pr) (bs : List Bd) (i : Nat) : List Bd := (bs.take i).map (strI l) ++ bs.drop i
theorem mixI_zero (l : List Pr) (bs : List Bd) : mixI l bs 0 = bs := by simp [mixI]
theorem mixI_all (l : List Pr) (bs : List Bd) : mixI l bs bs.length = bs.map (strI l) := by simp [mixI]
theorem mixI_length (l : List Pr) (bs : List Bd) (i : Nat) : (mixI l bs i).length = bs.length := by simp [mixI]; omega
theorem mixI_set (l : List Pr) (bs : List Bd) (i : Nat) (h : i < bs.length) (c : Bd) : (mixI l bs i).set i c = (bs.take i).map (strI l) ++ c :: bs.drop (i+1) := by
  have e : ((bs.take i).map (strI l)).length = i := by simp; omega
  unfold mixI
  rw [List.set_append_right _ _ (by omega), e, Nat.sub_self, List.drop_eq_getElem_cons h, List.set_cons_zero]
theorem mixI_self (l : List Pr) (bs : List Bd) (i : Nat) (h : i < bs.length) : (mixI l bs i).set i (bs.getD i Bd.z) = mixI l bs i := by
  rw [mixI_set l bs i h, mixI, List.drop_eq_getElem_cons h, List.getD_eq_getElem?_getD, List.getElem?_eq_getElem h]; rfl
theorem mixI_next (l : List Pr) (bs : List Bd) (i : Nat) (h : i < bs.length) : (mixI l bs i).set i (strI l (bs.getD i Bd.z)) = mixI l bs (i+1) := by
  rw [mixI_set l bs i h, mixI, List.take_add_one, getD_of bs i Bd.z h]
  simp
theorem cur_num (o : Bd) (l : List Pr) (k : Nat) (hk : k ≤ l.length) (h0 : -99 ≤ o.m) (h1 : o.m ≤ 99) (hp : ∀ i, i < l.length → 0 ≤ (l.getD i Pr.z).lo ∧ (l.getD i Pr.z).lo ≤ (l.getD i Pr.z).hi ∧ (l.getD i Pr.z).hi ≤ 12) :
    -(99 + 24 * (k : Int)) ≤ (curI o l k).m ∧ (curI o l k).m ≤ 99 + 24 * (k : Int) := by
  induction k with
  | zero => exact ⟨by show _ ≤ o.m; omega, by show o.m ≤ _; omega⟩
  | succ k ih =>
    obtain ⟨i1, i2⟩ := ih (by omega)
    rw [curI_succ o l k (by omega), stepI]
    have := step_num (o := o) (B := 99 + 24 * (k : Int)) i1 i2 (hp k (by omega))
    constructor <;> omega
theorem curS_num (o : Bd) (l : List Pr) (k : Nat) (hk : k ≤ l.length) (h0 : -99 ≤ o.m) (h1 : o.m ≤ 99) (hp : ∀ i, i < l.length → 0 ≤ (l.getD i Pr.z).lo ∧ (l.getD i Pr.z).lo ≤ (l.getD i Pr.z).hi ∧ (l.getD i Pr.z).hi ≤ 12) :
    -(99 + 24 * (k : Int)) ≤ (curS o l k).m ∧ (curS o l k).m ≤ 99 + 24 * (k : Int) := by
  induction k with
  | zero => exact ⟨by show _ ≤ o.m; omega, by show o.m ≤ _; omega⟩
  | succ k ih =>
    obtain ⟨i1, i2⟩ := ih (by omega)
    rw [curS_succ o l k (by omega), stepS]
    have := step_num (o := stepT (curS o l k) (curS o l k) (l.getD k Pr.z)) (c := curS o l k) (x := l.getD k Pr.z) (B := 99 + 24 * (k : Int)) i1 i2 (hp k (by omega))
    have h2 : -(99 + 24 * (k : Int) + 24) ≤ (stepF (stepT (curS o l k) (curS o l k) (l.getD k Pr.z)) (stepT (curS o l k) (curS o l k) (l.getD k Pr.z)) (l.getD k Pr.z)).m ∧ (stepF (stepT (curS o l k) (curS o l k) (l.getD k Pr.z)) (stepT (curS o l k) (curS o l k) (l.getD k Pr.z)) (l.getD k Pr.z)).m ≤ 99 + 24 * (k : Int) + 24 := by
      have hp' := hp k (by omega)
      unfold stepF stepT
      split <;> split <;> (try dsimp only) <;> omega
    constructor <;> omega
set_option maxRecDepth 100000 in
set_option maxHeartbeats 16000000 in
theorem impl_own (p : Pl) (b v : Value) (l : List Pr) (w : World) (hb : Bds w 0 b p.bs) (hv : Prs w 0 v l) (hd : dealOk p l = true) :
    Calls Try.prog 69 #[.agg #[.int .i64 p.pts, b, v]] w (RetPlan w ⟨p.pts, p.bs.map (strI l)⟩) := by
  have Hv := Lib.hid hv; have Hb := Lib.hid hb
  obtain ⟨a, cap, rfl, hn, hc, -⟩ := hv.open
  obtain ⟨ab, cb, rfl, -⟩ := hb.open
  have h12 := (deal_use hd).2.1
  have h2 := (deal_use hd).2.2.1
  have HM := Lib.hid (ok_nums (deal_use hd).1)
  have HP := Lib.hid (deal_nums hd)
  clear hv hb hd
  go_enter Try.func69, Try.ntmps69
  go_wp2_with fail
  obtain ⟨W, hW, A0, R1, hs, E⟩ := two_boxes w #[.int .i64 p.pts, .slice ab p.bs.length cb, .slice a l.length cap] #[.int .i64 0, .slice none 0 0] 44 25
  rw [← hW.out]
  refine (impl_clone p _ _ (Hb.out.ext E) (by omega)).mono ?_
  rintro e w1 ⟨vc, rfl, hrow, hb1⟩
  obtain ⟨ac, cc, rfl, -⟩ := hrow.open
  have hgc : ∀ q, (Value.slice ac p.bs.length cc).ownBlock = some q → q < w1.heap.size := fun q hq => (hrow.lt q hq).2
  have Row := Lib.hid hrow
  have q1 := hb1.size
  clear hrow
  go_upto_region 2 with fail
  obtain ⟨w2, hw2, P3, hs2, E2⟩ := one_box w1 #[.int .i64 p.pts, .slice ac p.bs.length cc] 25
  rw [← hw2.out]
  have Row := Lib.hid (Row.out.ext E2)
  have EW := ext_trans hb1 E2
  have A2 := A0.ext EW
  clear E2 hb1
  obtain ⟨rc0, rz0⟩ := (A2).rules; have rl0 := (A2).lt
  go_wp2_with fail
  clear rc0 rz0 rl0
  have Row : Hid (Bds w2 W.heap.size (.slice ac p.bs.length cc) (mixI l p.bs 0)) := by rw [mixI_zero]; exact Row
  go_loopg [15] p.bs.length (fun m ii wr => ∃ i : Nat, i ≤ p.bs.length ∧ m = p.bs.length - i ∧ ii = .int .i64 i ∧ Hid (Bds wr W.heap.size (.slice ac p.bs.length cc) (mixI l p.bs i)) ∧ Below W.heap.size W wr ∧ Box wr w1.heap.size 25 #[.int .i64 p.pts, .slice ac p.bs.length cc])
  case atStart => exact ⟨0, by omega, by omega, rfl, Row, EW, P3⟩
  case round =>
    clear Row EW P3 A2
    obtain ⟨i, hi, hgk, rfl, Row, EW, P3⟩ := hrel
    have Hki := Lib.hid hgk
    clear hgk
    have Ew := ext_trans E EW
    by_cases hlt : i < p.bs.length
    · obtain ⟨M, hM⟩ : ∃ M, Hid (M = mixI l p.bs i) := ⟨_, rfl⟩
      have hiM : i < M.length := by rw [hM.out, mixI_length]; exact hlt
      obtain ⟨o, ho⟩ : ∃ o : Bd, Hid (o = p.bs.getD i Bd.z) := ⟨_, rfl⟩
      have Row : Hid (Bds wr W.heap.size (.slice ac p.bs.length cc) (M.set i o)) := by rw [hM.out, ho.out, mixI_self l p.bs i hlt]; exact Row
      obtain ⟨gb, hgb, -, hgbl, hgbf, c0, c1, c2⟩ := (Hb.out.ext Ew).at_ (j := i) hlt
      rw [← ho.out] at c0 c1 c2
      have hom := HM.out i hlt
      rw [← ho.out] at hom
      subst hgb
      obtain ⟨g, hag, hgW, -, -, -, -, -⟩ := Row.out.atSet hiM
      subst hag
      have hgw1 := hgc g rfl
      have hP3l := P3.lt
      go_upto_region 5 with fail
      obtain ⟨w5, hw5, B5, hs5, E5⟩ := one_box wr #[.int .i64 o.f, .int .i64 o.t, .int .i64 o.m] 48
      rw [← hw5.out]
      have Row := Lib.hid (Row.out.ext E5)
      have P3 := P3.ext E5
      have EW := ext_trans EW E5
      have A0 := A0.ext EW
      clear c0 c1 c2 hgbf E5 Ew
      obtain ⟨rc5, rz5⟩ := (B5).rules; have rl5 := (B5).lt
      obtain ⟨rc0, rz0⟩ := (A0).rules; have rl0 := (A0).lt
      by_cases hft : o.f = o.t
      · have hftb : (o.f == o.t) = true := by simp [hft]
        have Hft := Lib.hid hft
        clear hft
        go_wp2_with fail
        go_roundg (p.bs.length - (i+1))
        case rel =>
          refine ⟨i+1, by omega, rfl, by go_num, ?_, EW, P3⟩
          rw [← mixI_next l p.bs i hlt, ← ho.out, ← hM.out, strI, if_pos Hft.out]
          exact Row
        case measure => have := Hki.out; omega
      · have hftb : (o.f == o.t) = false := by simp [hft]
        have Hft := Lib.hid hft
        clear hft
        go_wp2_with fail
        clear rc5 rz5 rl5 rc0 rz0 rl0 A0
        go_loopg [28] l.length (fun m kk wx => ∃ k : Nat, k ≤ l.length ∧ m = l.length - k ∧ kk = .int .i64 k ∧ Hid (Bds wx W.heap.size (.slice (some ⟨g, 0, none⟩) p.bs.length cc) (M.set i (curI o l k))) ∧ Below W.heap.size W wx ∧ Box wx w1.heap.size 25 #[.int .i64 p.pts, .slice (some ⟨g, 0, none⟩) p.bs.length cc] ∧ Box wx wr.heap.size 48 #[.int .i64 o.f, .int .i64 o.t, .int .i64 o.m])
        case atStart => exact ⟨0, by omega, by omega, rfl, Row, EW, P3, B5⟩
        case round =>
          clear Row EW P3 B5
          rename World => wx
          obtain ⟨k, hk, hgk, rfl, Row, EW, P3, B5⟩ := hrel
          have Hkk := Lib.hid hgk
          clear hgk
          by_cases hlk : k < l.length
          · obtain ⟨c, hcc⟩ : ∃ c : Bd, Hid (c = curI o l k) := ⟨_, rfl⟩
            rw [← hcc.out] at Row
            have hcm : -(99 + 24 * (k : Int)) ≤ c.m ∧ c.m ≤ 99 + 24 * (k : Int) := by
              rw [hcc.out]
              exact cur_num o l k hk hom.1 hom.2 HP.out
            obtain ⟨gp, hgp, -, hgpl, hgpf, c0, c1, c2, c3⟩ := (Hv.out.ext (ext_trans E EW)).at_ (j := k) hlk
            obtain ⟨x, hx⟩ : ∃ x : Pr, Hid (x = l.getD k Pr.z) := ⟨_, rfl⟩
            rw [← hx.out] at c0 c1 c2 c3
            have hxn := HP.out k hlk
            rw [← hx.out] at hxn
            subst hgp
            have hB5l := B5.lt
            go_upto_region 9 with fail
            obtain ⟨wy, hwy, B7, hs7, E7⟩ := one_box wx #[.int .i64 x.f, .int .i64 x.t, .int .i64 x.lo, .int .i64 x.hi] 50
            rw [← hwy.out]
            have Row := Lib.hid (Row.out.ext E7)
            have P3 := P3.ext E7
            have B5 := B5.ext E7
            have EW := ext_trans EW E7
            clear c0 c1 c2 c3 hgpf E7
            have hk2 : (k : Int) ≤ 2 := by omega
            by_cases e1 : o.t = x.t
            · by_cases e2 : o.f = x.t
              · skip
                have he1 : (o.t == x.t) = true := by simp [e1]
                have he2 : (o.f == x.t) = true := by simp [e2]
                have E1 := Lib.hid e1
                have E2 := Lib.hid e2
                clear e1 e2
                obtain ⟨rc5, rz5⟩ := (B5).rules; have rl5 := (B5).lt
                obtain ⟨rc7, rz7⟩ := (B7).rules; have rl7 := (B7).lt
                go_upto_region 10 with fail
                clear rc5 rz5 rl5 rc7 rz7 rl7
                obtain ⟨rc3, rz3⟩ := (P3).rules; have rl3 := (P3).lt
                obtain ⟨rc7, rz7⟩ := (B7).rules; have rl7 := (B7).lt
                obtain ⟨_, hge, -, -, rzg, rg0, rg1, rg2⟩ := Row.out.atSet hiM
                cases hge
                go_upto_region 11 with fail
                clear rc3 rz3 rl3 rc7 rz7 rl7 rzg rg0 rg1 rg2
                obtain ⟨Ta, hTa⟩ : ∃ Ta, Hid (Ta = wy.setCell ⟨g, i * 3 + 1, none⟩ (.int .i64 x.f)) := ⟨_, rfl⟩
                have Row : Hid (Bds Ta W.heap.size (.slice (some ⟨g, 0, none⟩) p.bs.length cc) (M.set i ⟨c.f, x.f, c.m⟩)) := by rw [hTa.out]; exact Lib.hid (Row.out.putT hiM _)
                have P3 := P3.far (p := ⟨g, i * 3 + 1, none⟩) (by dsimp only; omega) (.int .i64 x.f)
                have B5 := B5.far (p := ⟨g, i * 3 + 1, none⟩) (by dsimp only; omega) (.int .i64 x.f)
                have B7 := B7.far (p := ⟨g, i * 3 + 1, none⟩) (by dsimp only; omega) (.int .i64 x.f)
                have EW := ext_set EW (p := ⟨g, i * 3 + 1, none⟩) (by dsimp only; omega) (.int .i64 x.f)
                rw [← hTa.out] at P3 B5 B7 EW ⊢
                obtain ⟨_, hge, -, hgD, rzg, rg0, rg1, rg2⟩ := Row.out.atSet hiM
                cases hge
                refine wp_region_tailb 11 (by kernel_rfl) (by kernel_rfl) (fun w' => w'.cell? ⟨w1.heap.size, 1, none⟩ = some (Value.slice (some ⟨g, 0, none⟩) p.bs.length cc) ∧ w'.cell? ⟨g, i * 3 + 2, none⟩ = some (Value.int .i64 c.m) ∧ w'.cell? ⟨wx.heap.size, 3, none⟩ = some (Value.int .i64 x.hi)) ?_ ?_
                · exact ⟨P3.cell0 rfl, rg2, B7.cell0 rfl⟩
                intro hHeld
                obtain ⟨Tb, hTb⟩ : ∃ Tb, Hid (Tb = Ta.drew) := ⟨_, rfl⟩
                have Row : Hid (Bds Tb W.heap.size (.slice (some ⟨g, 0, none⟩) p.bs.length cc) (M.set i ⟨c.f, x.f, c.m⟩)) := by rw [hTb.out]; exact Lib.hid Row.out.drew
                have P3 := P3.drew
                have B5 := B5.drew
                have B7 := B7.drew
                have EW := ext_drew EW
                rw [← hTb.out] at hHeld P3 B5 B7 EW ⊢
                clear rzg rg0 rg1 rg2 hgD
                simp only [List.pop_toArray, List.dropLast]
                try simp only [Act.put, List.setIfInBounds_toArray, List.set_cons_zero, List.set_cons_succ]
                refine wpAnyH_take (i := 0) (v := ?_) rfl (by kernel_rfl) (by kernel_rfl) (by kernel_rfl) (fun _ _ _ h => h) (Or.inl ⟨by rfl, fun w' hS' => ?_⟩) (by assumption) ?_
                rotate_left
                · (try dsimp only at hS'); go_simp; (try rw [if_pos (by omega)]); try with_reducible rfl
                try simp only [Act.put, List.getElem_toArray, List.getElem_cons_zero, List.getElem_cons_succ, List.setIfInBounds_toArray, List.set_cons_zero, List.set_cons_succ]
                refine wpAnyH_take (i := 1) (v := ?_) rfl (by kernel_rfl) (by kernel_rfl) (by kernel_rfl) (fun _ _ _ h => h) (Or.inl ⟨by rfl, fun w' hS' => ?_⟩) (by assumption) ?_
                rotate_left
                · (try dsimp only at hS'); go_simp; (try rw [if_pos (by omega)]); try with_reducible rfl
                try simp only [Act.put, List.getElem_toArray, List.getElem_cons_zero, List.getElem_cons_succ, List.setIfInBounds_toArray, List.set_cons_zero, List.set_cons_succ]
                refine wpAnyH_take (i := 2) (v := ?_) rfl (by kernel_rfl) (by kernel_rfl) (by kernel_rfl) (fun _ _ _ h => h) (Or.inl ⟨by rfl, fun w' hS' => ?_⟩) (by assumption) ?_
                rotate_left
                · (try dsimp only at hS'); go_simp; (try rw [if_pos (by omega)]); try with_reducible rfl
                try simp only [Act.put, List.getElem_toArray, List.getElem_cons_zero, List.getElem_cons_succ, List.setIfInBounds_toArray, List.set_cons_zero, List.set_cons_succ]
                refine wpAnyH_take (i := 3) (v := ?_) rfl (by kernel_rfl) (by kernel_rfl) (by kernel_rfl) (fun _ _ _ h => h) (Or.inl ⟨by rfl, fun w' hS' => ?_⟩) (by assumption) ?_
                rotate_left
                · (try dsimp only at hS'); go_simp; (try rw [if_pos (by omega)]); try with_reducible rfl
                try simp only [Act.put, List.getElem_toArray, List.getElem_cons_zero, List.getElem_cons_succ, List.setIfInBounds_toArray, List.set_cons_zero, List.set_cons_succ]
                refine wpAnyH_take (i := 4) (v := ?_) rfl (by kernel_rfl) (by kernel_rfl) (by kernel_rfl) (fun _ _ _ h => h) (Or.inl ⟨by rfl, fun w' hS' => ?_⟩) (by assumption) ?_
                rotate_left
                · (try dsimp only at hS'); go_simp; (try rw [if_pos (by omega)]); try with_reducible rfl
                try simp only [Act.put, List.getElem_toArray, List.getElem_cons_zero, List.getElem_cons_succ, List.setIfInBounds_toArray, List.set_cons_zero, List.set_cons_succ]
                refine wpAnyH_take (i := 5) (v := ?_) rfl (by kernel_rfl) (by kernel_rfl) (by kernel_rfl) (fun _ _ _ h => h) (Or.inl ⟨by rfl, fun w' hS' => ?_⟩) (by assumption) ?_
                rotate_left
                · (try dsimp only at hS'); go_simp; (try rw [if_pos (by omega)]); try with_reducible rfl
                try simp only [Act.put, List.getElem_toArray, List.getElem_cons_zero, List.getElem_cons_succ, List.setIfInBounds_toArray, List.set_cons_zero, List.set_cons_succ]
                refine wpAnyH_take (i := 6) (v := ?_) rfl (by kernel_rfl) (by kernel_rfl) (by kernel_rfl) (fun _ _ _ h => h) (Or.inl ⟨by rfl, fun w' hS' => ?_⟩) (by assumption) ?_
                rotate_left
                · (try dsimp only at hS'); go_simp; (try rw [if_pos (by omega)]); try with_reducible rfl
                try simp only [Act.put, List.getElem_toArray, List.getElem_cons_zero, List.getElem_cons_succ, List.setIfInBounds_toArray, List.set_cons_zero, List.set_cons_succ]
                refine wpAnyH_take (i := 7) (v := ?_) rfl (by kernel_rfl) (by kernel_rfl) (by kernel_rfl) (fun _ _ _ h => h) (Or.inl ⟨by rfl, fun w' hS' => ?_⟩) (by assumption) ?_
                rotate_left
                · (try dsimp only at hS'); go_simp; (try rw [if_pos (by omega)]); try with_reducible rfl
                try simp only [Act.put, List.getElem_toArray, List.getElem_cons_zero, List.getElem_cons_succ, List.setIfInBounds_toArray, List.set_cons_zero, List.set_cons_succ]
                refine wpAnyH_take (i := 8) (v := ?_) rfl (by kernel_rfl) (by kernel_rfl) (by kernel_rfl) (fun _ _ _ h => h) (Or.inl ⟨by rfl, fun w' hS' => ?_⟩) (by assumption) ?_
                rotate_left
                · (try dsimp only at hS'); go_simp; (try rw [if_pos (by omega)]); try with_reducible rfl
                try simp only [Act.put, List.getElem_toArray, List.getElem_cons_zero, List.getElem_cons_succ, List.setIfInBounds_toArray, List.set_cons_zero, List.set_cons_succ]
                refine wpAnyH_take (i := 9) (v := ?_) rfl (by kernel_rfl) (by kernel_rfl) (by kernel_rfl) (fun _ _ _ h => h) (Or.inl ⟨by rfl, fun w' hS' => ?_⟩) (by assumption) ?_
                rotate_left
                · (try dsimp only at hS'); go_simp; (try rw [if_pos (by omega)]); try with_reducible rfl
                try simp only [Act.put, List.getElem_toArray, List.getElem_cons_zero, List.getElem_cons_succ, List.setIfInBounds_toArray, List.set_cons_zero, List.set_cons_succ]
                refine wpAnyH_take (i := 10) (v := ?_) rfl (by kernel_rfl) (by kernel_rfl) (by kernel_rfl) (fun _ _ _ h => h) (Or.inl ⟨by rfl, fun w' hS' => ?_⟩) (by assumption) ?_
                rotate_left
                · (try dsimp only at hS'); go_simp; (try rw [if_pos (by omega)]); try with_reducible rfl
                try simp only [Act.put, List.getElem_toArray, List.getElem_cons_zero, List.getElem_cons_succ, List.setIfInBounds_toArray, List.set_cons_zero, List.set_cons_succ]
                obtain ⟨_, hge, -, hgD, rzg, rg0, rg1, rg2⟩ := Row.out.atSet hiM
                cases hge
                refine wpAnyH_done (by kernel_rfl) ?_ _
                refine tail_step rfl (fun K' hK => ?_)
                refine if_yes (by rfl) ?_
                try simp only [Act.put, List.getElem_toArray, List.getElem_cons_zero, List.getElem_cons_succ, List.setIfInBounds_toArray, List.set_cons_zero, List.set_cons_succ]
                go_simp
                refine hK _ _ ?_
                clear hK K'
                try simp only [Act.put, List.getElem_toArray, List.getElem_cons_zero, List.getElem_cons_succ, List.setIfInBounds_toArray, List.set_cons_zero, List.set_cons_succ]
                rw [show IntKind.i64.wrap (c.m - x.hi) = c.m - x.hi from IntWalk.i64_in _ (by omega)]
                clear rzg rg0 rg1 rg2 hgD
                obtain ⟨Tc, hTc⟩ : ∃ Tc, Hid (Tc = Tb.setCell ⟨g, i * 3 + 2, none⟩ (.int .i64 (c.m - x.hi))) := ⟨_, rfl⟩
                have Row : Hid (Bds Tc W.heap.size (.slice (some ⟨g, 0, none⟩) p.bs.length cc) (M.set i ⟨c.f, x.f, c.m - x.hi⟩)) := by rw [hTc.out]; exact Lib.hid (Row.out.putM hiM _)
                have P3 := P3.far (p := ⟨g, i * 3 + 2, none⟩) (by dsimp only; omega) (.int .i64 (c.m - x.hi))
                have B5 := B5.far (p := ⟨g, i * 3 + 2, none⟩) (by dsimp only; omega) (.int .i64 (c.m - x.hi))
                have B7 := B7.far (p := ⟨g, i * 3 + 2, none⟩) (by dsimp only; omega) (.int .i64 (c.m - x.hi))
                have EW := ext_set EW (p := ⟨g, i * 3 + 2, none⟩) (by dsimp only; omega) (.int .i64 (c.m - x.hi))
                rw [← hTc.out] at P3 B5 B7 EW ⊢
                obtain ⟨c1, hc1⟩ : ∃ c1 : Bd, Hid (c1 = ⟨c.f, x.f, c.m - x.hi⟩) := ⟨_, rfl⟩
                rw [← hc1.out] at Row
                have hm1 : c1.m = c.m - x.hi := by rw [hc1.out]
                have hmb : -200 ≤ c1.m ∧ c1.m ≤ 200 := by rw [hm1]; omega
                have Hm1 := Lib.hid hm1
                clear hm1
                obtain ⟨rc5, rz5⟩ := (B5).rules; have rl5 := (B5).lt
                obtain ⟨rc7, rz7⟩ := (B7).rules; have rl7 := (B7).lt
                go_upto_region 13 with fail
                clear rc5 rz5 rl5 rc7 rz7 rl7
                obtain ⟨rc3, rz3⟩ := (P3).rules; have rl3 := (P3).lt
                obtain ⟨rc7, rz7⟩ := (B7).rules; have rl7 := (B7).lt
                obtain ⟨_, hge, -, -, rzg, rg0, rg1, rg2⟩ := Row.out.atSet hiM
                cases hge
                go_upto_region 14 with fail
                clear rc3 rz3 rl3 rc7 rz7 rl7 rzg rg0 rg1 rg2
                obtain ⟨Fa, hFa⟩ : ∃ Fa, Hid (Fa = Tc.setCell ⟨g, i * 3, none⟩ (.int .i64 x.f)) := ⟨_, rfl⟩
                have Row : Hid (Bds Fa W.heap.size (.slice (some ⟨g, 0, none⟩) p.bs.length cc) (M.set i ⟨x.f, c1.t, c1.m⟩)) := by rw [hFa.out]; exact Lib.hid (Row.out.putF hiM _)
                have P3 := P3.far (p := ⟨g, i * 3, none⟩) (by dsimp only; omega) (.int .i64 x.f)
                have B5 := B5.far (p := ⟨g, i * 3, none⟩) (by dsimp only; omega) (.int .i64 x.f)
                have B7 := B7.far (p := ⟨g, i * 3, none⟩) (by dsimp only; omega) (.int .i64 x.f)
                have EW := ext_set EW (p := ⟨g, i * 3, none⟩) (by dsimp only; omega) (.int .i64 x.f)
                rw [← hFa.out] at P3 B5 B7 EW ⊢
                obtain ⟨_, hge, -, hgD, rzg, rg0, rg1, rg2⟩ := Row.out.atSet hiM
                cases hge
                refine wp_region_tailb 11 (by kernel_rfl) (by kernel_rfl) (fun w' => w'.cell? ⟨w1.heap.size, 1, none⟩ = some (Value.slice (some ⟨g, 0, none⟩) p.bs.length cc) ∧ w'.cell? ⟨g, i * 3 + 2, none⟩ = some (Value.int .i64 c1.m) ∧ w'.cell? ⟨wx.heap.size, 2, none⟩ = some (Value.int .i64 x.lo)) ?_ ?_
                · exact ⟨P3.cell0 rfl, rg2, B7.cell0 rfl⟩
                intro hHeld
                obtain ⟨Fb, hFb⟩ : ∃ Fb, Hid (Fb = Fa.drew) := ⟨_, rfl⟩
                have Row : Hid (Bds Fb W.heap.size (.slice (some ⟨g, 0, none⟩) p.bs.length cc) (M.set i ⟨x.f, c1.t, c1.m⟩)) := by rw [hFb.out]; exact Lib.hid Row.out.drew
                have P3 := P3.drew
                have B5 := B5.drew
                have B7 := B7.drew
                have EW := ext_drew EW
                rw [← hFb.out] at hHeld P3 B5 B7 EW ⊢
                clear rzg rg0 rg1 rg2 hgD
                simp only [List.pop_toArray, List.dropLast]
                try simp only [Act.put, List.setIfInBounds_toArray, List.set_cons_zero, List.set_cons_succ]
                refine wpAnyH_take (i := 0) (v := ?_) rfl (by kernel_rfl) (by kernel_rfl) (by kernel_rfl) (fun _ _ _ h => h) (Or.inl ⟨by rfl, fun w' hS' => ?_⟩) (by assumption) ?_
                rotate_left
                · (try dsimp only at hS'); go_simp; (try rw [if_pos (by omega)]); try with_reducible rfl
                try simp only [Act.put, List.getElem_toArray, List.getElem_cons_zero, List.getElem_cons_succ, List.setIfInBounds_toArray, List.set_cons_zero, List.set_cons_succ]
                refine wpAnyH_take (i := 1) (v := ?_) rfl (by kernel_rfl) (by kernel_rfl) (by kernel_rfl) (fun _ _ _ h => h) (Or.inl ⟨by rfl, fun w' hS' => ?_⟩) (by assumption) ?_
                rotate_left
                · (try dsimp only at hS'); go_simp; (try rw [if_pos (by omega)]); try with_reducible rfl
                try simp only [Act.put, List.getElem_toArray, List.getElem_cons_zero, List.getElem_cons_succ, List.setIfInBounds_toArray, List.set_cons_zero, List.set_cons_succ]
                refine wpAnyH_take (i := 2) (v := ?_) rfl (by kernel_rfl) (by kernel_rfl) (by kernel_rfl) (fun _ _ _ h => h) (Or.inl ⟨by rfl, fun w' hS' => ?_⟩) (by assumption) ?_
                rotate_left
                · (try dsimp only at hS'); go_simp; (try rw [if_pos (by omega)]); try with_reducible rfl
                try simp only [Act.put, List.getElem_toArray, List.getElem_cons_zero, List.getElem_cons_succ, List.setIfInBounds_toArray, List.set_cons_zero, List.set_cons_succ]
                refine wpAnyH_take (i := 3) (v := ?_) rfl (by kernel_rfl) (by kernel_rfl) (by kernel_rfl) (fun _ _ _ h => h) (Or.inl ⟨by rfl, fun w' hS' => ?_⟩) (by assumption) ?_
                rotate_left
                · (try dsimp only at hS'); go_simp; (try rw [if_pos (by omega)]); try with_reducible rfl
                try simp only [Act.put, List.getElem_toArray, List.getElem_cons_zero, List.getElem_cons_succ, List.setIfInBounds_toArray, List.set_cons_zero, List.set_cons_succ]
                refine wpAnyH_take (i := 4) (v := ?_) rfl (by kernel_rfl) (by kernel_rfl) (by kernel_rfl) (fun _ _ _ h => h) (Or.inl ⟨by rfl, fun w' hS' => ?_⟩) (by assumption) ?_
                rotate_left
                · (try dsimp only at hS'); go_simp; (try rw [if_pos (by omega)]); try with_reducible rfl
                try simp only [Act.put, List.getElem_toArray, List.getElem_cons_zero, List.getElem_cons_succ, List.setIfInBounds_toArray, List.set_cons_zero, List.set_cons_succ]
                refine wpAnyH_take (i := 5) (v := ?_) rfl (by kernel_rfl) (by kernel_rfl) (by kernel_rfl) (fun _ _ _ h => h) (Or.inl ⟨by rfl, fun w' hS' => ?_⟩) (by assumption) ?_
                rotate_left
                · (try dsimp only at hS'); go_simp; (try rw [if_pos (by omega)]); try with_reducible rfl
                try simp only [Act.put, List.getElem_toArray, List.getElem_cons_zero, List.getElem_cons_succ, List.setIfInBounds_toArray, List.set_cons_zero, List.set_cons_succ]
                refine wpAnyH_take (i := 6) (v := ?_) rfl (by kernel_rfl) (by kernel_rfl) (by kernel_rfl) (fun _ _ _ h => h) (Or.inl ⟨by rfl, fun w' hS' => ?_⟩) (by assumption) ?_
                rotate_left
                · (try dsimp only at hS'); go_simp; (try rw [if_pos (by omega)]); try with_reducible rfl
                try simp only [Act.put, List.getElem_toArray, List.getElem_cons_zero, List.getElem_cons_succ, List.setIfInBounds_toArray, List.set_cons_zero, List.set_cons_succ]
                refine wpAnyH_take (i := 7) (v := ?_) rfl (by kernel_rfl) (by kernel_rfl) (by kernel_rfl) (fun _ _ _ h => h) (Or.inl ⟨by rfl, fun w' hS' => ?_⟩) (by assumption) ?_
                rotate_left
                · (try dsimp only at hS'); go_simp; (try rw [if_pos (by omega)]); try with_reducible rfl
                try simp only [Act.put, List.getElem_toArray, List.getElem_cons_zero, List.getElem_cons_succ, List.setIfInBounds_toArray, List.set_cons_zero, List.set_cons_succ]
                refine wpAnyH_take (i := 8) (v := ?_) rfl (by kernel_rfl) (by kernel_rfl) (by kernel_rfl) (fun _ _ _ h => h) (Or.inl ⟨by rfl, fun w' hS' => ?_⟩) (by assumption) ?_
                rotate_left
                · (try dsimp only at hS'); go_simp; (try rw [if_pos (by omega)]); try with_reducible rfl
                try simp only [Act.put, List.getElem_toArray, List.getElem_cons_zero, List.getElem_cons_succ, List.setIfInBounds_toArray, List.set_cons_zero, List.set_cons_succ]
                refine wpAnyH_take (i := 9) (v := ?_) rfl (by kernel_rfl) (by kernel_rfl) (by kernel_rfl) (fun _ _ _ h => h) (Or.inl ⟨by rfl, fun w' hS' => ?_⟩) (by assumption) ?_
                rotate_left
                · (try dsimp only at hS'); go_simp; (try rw [if_pos (by omega)]); try with_reducible rfl
                try simp only [Act.put, List.getElem_toArray, List.getElem_cons_zero, List.getElem_cons_succ, List.setIfInBounds_toArray, List.set_cons_zero, List.set_cons_succ]
                refine wpAnyH_take (i := 10) (v := ?_) rfl (by kernel_rfl) (by kernel_rfl) (by kernel_rfl) (fun _ _ _ h => h) (Or.inl ⟨by rfl, fun w' hS' => ?_⟩) (by assumption) ?_
                rotate_left
                · (try dsimp only at hS'); go_simp; (try rw [if_pos (by omega)]); try with_reducible rfl
                try simp only [Act.put, List.getElem_toArray, List.getElem_cons_zero, List.getElem_cons_succ, List.setIfInBounds_toArray, List.set_cons_zero, List.set_cons_succ]
                obtain ⟨_, hge, -, hgD, rzg, rg0, rg1, rg2⟩ := Row.out.atSet hiM
                cases hge
                refine wpAnyH_done (by kernel_rfl) ?_ _
                refine tail_step rfl (fun K' hK => ?_)
                refine if_yes (by rfl) ?_
                try simp only [Act.put, List.getElem_toArray, List.getElem_cons_zero, List.getElem_cons_succ, List.setIfInBounds_toArray, List.set_cons_zero, List.set_cons_succ]
                go_simp
                refine hK _ _ ?_
                clear hK K'
                try simp only [Act.put, List.getElem_toArray, List.getElem_cons_zero, List.getElem_cons_succ, List.setIfInBounds_toArray, List.set_cons_zero, List.set_cons_succ]
                rw [show IntKind.i64.wrap (c1.m + x.lo) = c1.m + x.lo from IntWalk.i64_in _ (by omega)]
                clear rzg rg0 rg1 rg2 hgD
                obtain ⟨Fc, hFc⟩ : ∃ Fc, Hid (Fc = Fb.setCell ⟨g, i * 3 + 2, none⟩ (.int .i64 (c1.m + x.lo))) := ⟨_, rfl⟩
                have Row : Hid (Bds Fc W.heap.size (.slice (some ⟨g, 0, none⟩) p.bs.length cc) (M.set i ⟨x.f, c1.t, c1.m + x.lo⟩)) := by rw [hFc.out]; exact Lib.hid (Row.out.putM hiM _)
                have P3 := P3.far (p := ⟨g, i * 3 + 2, none⟩) (by dsimp only; omega) (.int .i64 (c1.m + x.lo))
                have B5 := B5.far (p := ⟨g, i * 3 + 2, none⟩) (by dsimp only; omega) (.int .i64 (c1.m + x.lo))
                have B7 := B7.far (p := ⟨g, i * 3 + 2, none⟩) (by dsimp only; omega) (.int .i64 (c1.m + x.lo))
                have EW := ext_set EW (p := ⟨g, i * 3 + 2, none⟩) (by dsimp only; omega) (.int .i64 (c1.m + x.lo))
                rw [← hFc.out] at P3 B5 B7 EW ⊢
                go_wp2_with fail
                go_roundg (l.length - (k+1))
                case rel =>
                  refine ⟨k+1, by omega, rfl, by go_num, ?_, EW, P3, B5⟩
                  have hcn : curI o l (k+1) = ⟨x.f, c1.t, c1.m + x.lo⟩ := by
                    rw [curI_succ o l k hlk, ← hx.out, ← hcc.out, stepI]
                    rw [stepT, if_pos E1.out, stepF, if_pos E2.out, ← hc1.out]
                  rw [hcn]
                  exact Row
                case measure => have := Hkk.out; omega

              · skip
                have he1 : (o.t == x.t) = true := by simp [e1]
                have he2 : (o.f == x.t) = false := by simp [e2]
                have E1 := Lib.hid e1
                have E2 := Lib.hid e2
                clear e1 e2
                obtain ⟨rc5, rz5⟩ := (B5).rules; have rl5 := (B5).lt
                obtain ⟨rc7, rz7⟩ := (B7).rules; have rl7 := (B7).lt
                go_upto_region 10 with fail
                clear rc5 rz5 rl5 rc7 rz7 rl7
                obtain ⟨rc3, rz3⟩ := (P3).rules; have rl3 := (P3).lt
                obtain ⟨rc7, rz7⟩ := (B7).rules; have rl7 := (B7).lt
                obtain ⟨_, hge, -, -, rzg, rg0, rg1, rg2⟩ := Row.out.atSet hiM
                cases hge
                go_upto_region 11 with fail
                clear rc3 rz3 rl3 rc7 rz7 rl7 rzg rg0 rg1 rg2
                obtain ⟨Ta, hTa⟩ : ∃ Ta, Hid (Ta = wy.setCell ⟨g, i * 3 + 1, none⟩ (.int .i64 x.f)) := ⟨_, rfl⟩
                have Row : Hid (Bds Ta W.heap.size (.slice (some ⟨g, 0, none⟩) p.bs.length cc) (M.set i ⟨c.f, x.f, c.m⟩)) := by rw [hTa.out]; exact Lib.hid (Row.out.putT hiM _)
                have P3 := P3.far (p := ⟨g, i * 3 + 1, none⟩) (by dsimp only; omega) (.int .i64 x.f)
                have B5 := B5.far (p := ⟨g, i * 3 + 1, none⟩) (by dsimp only; omega) (.int .i64 x.f)
                have B7 := B7.far (p := ⟨g, i * 3 + 1, none⟩) (by dsimp only; omega) (.int .i64 x.f)
                have EW := ext_set EW (p := ⟨g, i * 3 + 1, none⟩) (by dsimp only; omega) (.int .i64 x.f)
                rw [← hTa.out] at P3 B5 B7 EW ⊢
                obtain ⟨_, hge, -, hgD, rzg, rg0, rg1, rg2⟩ := Row.out.atSet hiM
                cases hge
                refine wp_region_tailb 11 (by kernel_rfl) (by kernel_rfl) (fun w' => w'.cell? ⟨w1.heap.size, 1, none⟩ = some (Value.slice (some ⟨g, 0, none⟩) p.bs.length cc) ∧ w'.cell? ⟨g, i * 3 + 2, none⟩ = some (Value.int .i64 c.m) ∧ w'.cell? ⟨wx.heap.size, 3, none⟩ = some (Value.int .i64 x.hi)) ?_ ?_
                · exact ⟨P3.cell0 rfl, rg2, B7.cell0 rfl⟩
                intro hHeld
                obtain ⟨Tb, hTb⟩ : ∃ Tb, Hid (Tb = Ta.drew) := ⟨_, rfl⟩
                have Row : Hid (Bds Tb W.heap.size (.slice (some ⟨g, 0, none⟩) p.bs.length cc) (M.set i ⟨c.f, x.f, c.m⟩)) := by rw [hTb.out]; exact Lib.hid Row.out.drew
                have P3 := P3.drew
                have B5 := B5.drew
                have B7 := B7.drew
                have EW := ext_drew EW
                rw [← hTb.out] at hHeld P3 B5 B7 EW ⊢
                clear rzg rg0 rg1 rg2 hgD
                simp only [List.pop_toArray, List.dropLast]
                try simp only [Act.put, List.setIfInBounds_toArray, List.set_cons_zero, List.set_cons_succ]
                refine wpAnyH_take (i := 0) (v := ?_) rfl (by kernel_rfl) (by kernel_rfl) (by kernel_rfl) (fun _ _ _ h => h) (Or.inl ⟨by rfl, fun w' hS' => ?_⟩) (by assumption) ?_
                rotate_left
                · (try dsimp only at hS'); go_simp; (try rw [if_pos (by omega)]); try with_reducible rfl
                try simp only [Act.put, List.getElem_toArray, List.getElem_cons_zero, List.getElem_cons_succ, List.setIfInBounds_toArray, List.set_cons_zero, List.set_cons_succ]
                refine wpAnyH_take (i := 1) (v := ?_) rfl (by kernel_rfl) (by kernel_rfl) (by kernel_rfl) (fun _ _ _ h => h) (Or.inl ⟨by rfl, fun w' hS' => ?_⟩) (by assumption) ?_
                rotate_left
                · (try dsimp only at hS'); go_simp; (try rw [if_pos (by omega)]); try with_reducible rfl
                try simp only [Act.put, List.getElem_toArray, List.getElem_cons_zero, List.getElem_cons_succ, List.setIfInBounds_toArray, List.set_cons_zero, List.set_cons_succ]
                refine wpAnyH_take (i := 2) (v := ?_) rfl (by kernel_rfl) (by kernel_rfl) (by kernel_rfl) (fun _ _ _ h => h) (Or.inl ⟨by rfl, fun w' hS' => ?_⟩) (by assumption) ?_
                rotate_left
                · (try dsimp only at hS'); go_simp; (try rw [if_pos (by omega)]); try with_reducible rfl
                try simp only [Act.put, List.getElem_toArray, List.getElem_cons_zero, List.getElem_cons_succ, List.setIfInBounds_toArray, List.set_cons_zero, List.set_cons_succ]
                refine wpAnyH_take (i := 3) (v := ?_) rfl (by kernel_rfl) (by kernel_rfl) (by kernel_rfl) (fun _ _ _ h => h) (Or.inl ⟨by rfl, fun w' hS' => ?_⟩) (by assumption) ?_
                rotate_left
                · (try dsimp only at hS'); go_simp; (try rw [if_pos (by omega)]); try with_reducible rfl
                try simp only [Act.put, List.getElem_toArray, List.getElem_cons_zero, List.getElem_cons_succ, List.setIfInBounds_toArray, List.set_cons_zero, List.set_cons_succ]
                refine wpAnyH_take (i := 4) (v := ?_) rfl (by kernel_rfl) (by kernel_rfl) (by kernel_rfl) (fun _ _ _ h => h) (Or.inl ⟨by rfl, fun w' hS' => ?_⟩) (by assumption) ?_
                rotate_left
                · (try dsimp only at hS'); go_simp; (try rw [if_pos (by omega)]); try with_reducible rfl
                try simp only [Act.put, List.getElem_toArray, List.getElem_cons_zero, List.getElem_cons_succ, List.setIfInBounds_toArray, List.set_cons_zero, List.set_cons_succ]
                refine wpAnyH_take (i := 5) (v := ?_) rfl (by kernel_rfl) (by kernel_rfl) (by kernel_rfl) (fun _ _ _ h => h) (Or.inl ⟨by rfl, fun w' hS' => ?_⟩) (by assumption) ?_
                rotate_left
                · (try dsimp only at hS'); go_simp; (try rw [if_pos (by omega)]); try with_reducible rfl
                try simp only [Act.put, List.getElem_toArray, List.getElem_cons_zero, List.getElem_cons_succ, List.setIfInBounds_toArray, List.set_cons_zero, List.set_cons_succ]
                refine wpAnyH_take (i := 6) (v := ?_) rfl (by kernel_rfl) (by kernel_rfl) (by kernel_rfl) (fun _ _ _ h => h) (Or.inl ⟨by rfl, fun w' hS' => ?_⟩) (by assumption) ?_
                rotate_left
                · (try dsimp only at hS'); go_simp; (try rw [if_pos (by omega)]); try with_reducible rfl
                try simp only [Act.put, List.getElem_toArray, List.getElem_cons_zero, List.getElem_cons_succ, List.setIfInBounds_toArray, List.set_cons_zero, List.set_cons_succ]
                refine wpAnyH_take (i := 7) (v := ?_) rfl (by kernel_rfl) (by kernel_rfl) (by kernel_rfl) (fun _ _ _ h => h) (Or.inl ⟨by rfl, fun w' hS' => ?_⟩) (by assumption) ?_
                rotate_left
                · (try dsimp only at hS'); go_simp; (try rw [if_pos (by omega)]); try with_reducible rfl
                try simp only [Act.put, List.getElem_toArray, List.getElem_cons_zero, List.getElem_cons_succ, List.setIfInBounds_toArray, List.set_cons_zero, List.set_cons_succ]
                refine wpAnyH_take (i := 8) (v := ?_) rfl (by kernel_rfl) (by kernel_rfl) (by kernel_rfl) (fun _ _ _ h => h) (Or.inl ⟨by rfl, fun w' hS' => ?_⟩) (by assumption) ?_
                rotate_left
                · (try dsimp only at hS'); go_simp; (try rw [if_pos (by omega)]); try with_reducible rfl
                try simp only [Act.put, List.getElem_toArray, List.getElem_cons_zero, List.getElem_cons_succ, List.setIfInBounds_toArray, List.set_cons_zero, List.set_cons_succ]
                refine wpAnyH_take (i := 9) (v := ?_) rfl (by kernel_rfl) (by kernel_rfl) (by kernel_rfl) (fun _ _ _ h => h) (Or.inl ⟨by rfl, fun w' hS' => ?_⟩) (by assumption) ?_
                rotate_left
                · (try dsimp only at hS'); go_simp; (try rw [if_pos (by omega)]); try with_reducible rfl
                try simp only [Act.put, List.getElem_toArray, List.getElem_cons_zero, List.getElem_cons_succ, List.setIfInBounds_toArray, List.set_cons_zero, List.set_cons_succ]
                refine wpAnyH_take (i := 10) (v := ?_) rfl (by kernel_rfl) (by kernel_rfl) (by kernel_rfl) (fun _ _ _ h => h) (Or.inl ⟨by rfl, fun w' hS' => ?_⟩) (by assumption) ?_
                rotate_left
                · (try dsimp only at hS'); go_simp; (try rw [if_pos (by omega)]); try with_reducible rfl
                try simp only [Act.put, List.getElem_toArray, List.getElem_cons_zero, List.getElem_cons_succ, List.setIfInBounds_toArray, List.set_cons_zero, List.set_cons_succ]
                obtain ⟨_, hge, -, hgD, rzg, rg0, rg1, rg2⟩ := Row.out.atSet hiM
                cases hge
                refine wpAnyH_done (by kernel_rfl) ?_ _
                refine tail_step rfl (fun K' hK => ?_)
                refine if_yes (by rfl) ?_
                try simp only [Act.put, List.getElem_toArray, List.getElem_cons_zero, List.getElem_cons_succ, List.setIfInBounds_toArray, List.set_cons_zero, List.set_cons_succ]
                go_simp
                refine hK _ _ ?_
                clear hK K'
                try simp only [Act.put, List.getElem_toArray, List.getElem_cons_zero, List.getElem_cons_succ, List.setIfInBounds_toArray, List.set_cons_zero, List.set_cons_succ]
                rw [show IntKind.i64.wrap (c.m - x.hi) = c.m - x.hi from IntWalk.i64_in _ (by omega)]
                clear rzg rg0 rg1 rg2 hgD
                obtain ⟨Tc, hTc⟩ : ∃ Tc, Hid (Tc = Tb.setCell ⟨g, i * 3 + 2, none⟩ (.int .i64 (c.m - x.hi))) := ⟨_, rfl⟩
                have Row : Hid (Bds Tc W.heap.size (.slice (some ⟨g, 0, none⟩) p.bs.length cc) (M.set i ⟨c.f, x.f, c.m - x.hi⟩)) := by rw [hTc.out]; exact Lib.hid (Row.out.putM hiM _)
                have P3 := P3.far (p := ⟨g, i * 3 + 2, none⟩) (by dsimp only; omega) (.int .i64 (c.m - x.hi))
                have B5 := B5.far (p := ⟨g, i * 3 + 2, none⟩) (by dsimp only; omega) (.int .i64 (c.m - x.hi))
                have B7 := B7.far (p := ⟨g, i * 3 + 2, none⟩) (by dsimp only; omega) (.int .i64 (c.m - x.hi))
                have EW := ext_set EW (p := ⟨g, i * 3 + 2, none⟩) (by dsimp only; omega) (.int .i64 (c.m - x.hi))
                rw [← hTc.out] at P3 B5 B7 EW ⊢
                obtain ⟨c1, hc1⟩ : ∃ c1 : Bd, Hid (c1 = ⟨c.f, x.f, c.m - x.hi⟩) := ⟨_, rfl⟩
                rw [← hc1.out] at Row
                have hm1 : c1.m = c.m - x.hi := by rw [hc1.out]
                have hmb : -200 ≤ c1.m ∧ c1.m ≤ 200 := by rw [hm1]; omega
                have Hm1 := Lib.hid hm1
                clear hm1
                obtain ⟨rc5, rz5⟩ := (B5).rules; have rl5 := (B5).lt
                obtain ⟨rc7, rz7⟩ := (B7).rules; have rl7 := (B7).lt
                go_wp2_with fail
                go_roundg (l.length - (k+1))
                case rel =>
                  refine ⟨k+1, by omega, rfl, by go_num, ?_, EW, P3, B5⟩
                  have hcn : curI o l (k+1) = c1 := by
                    rw [curI_succ o l k hlk, ← hx.out, ← hcc.out, stepI]
                    rw [stepT, if_pos E1.out, stepF, if_neg E2.out]; exact hc1.out.symm
                  rw [hcn]
                  exact Row
                case measure => have := Hkk.out; omega

            · by_cases e2 : o.f = x.t
              · skip
                have he1 : (o.t == x.t) = false := by simp [e1]
                have he2 : (o.f == x.t) = true := by simp [e2]
                have E1 := Lib.hid e1
                have E2 := Lib.hid e2
                clear e1 e2
                obtain ⟨rc5, rz5⟩ := (B5).rules; have rl5 := (B5).lt
                obtain ⟨rc7, rz7⟩ := (B7).rules; have rl7 := (B7).lt
                go_upto_region 13 with fail
                clear rc5 rz5 rl5 rc7 rz7 rl7
                obtain ⟨rc3, rz3⟩ := (P3).rules; have rl3 := (P3).lt
                obtain ⟨rc7, rz7⟩ := (B7).rules; have rl7 := (B7).lt
                obtain ⟨_, hge, -, -, rzg, rg0, rg1, rg2⟩ := Row.out.atSet hiM
                cases hge
                go_upto_region 14 with fail
                clear rc3 rz3 rl3 rc7 rz7 rl7 rzg rg0 rg1 rg2
                obtain ⟨Fa, hFa⟩ : ∃ Fa, Hid (Fa = wy.setCell ⟨g, i * 3, none⟩ (.int .i64 x.f)) := ⟨_, rfl⟩
                have Row : Hid (Bds Fa W.heap.size (.slice (some ⟨g, 0, none⟩) p.bs.length cc) (M.set i ⟨x.f, c.t, c.m⟩)) := by rw [hFa.out]; exact Lib.hid (Row.out.putF hiM _)
                have P3 := P3.far (p := ⟨g, i * 3, none⟩) (by dsimp only; omega) (.int .i64 x.f)
                have B5 := B5.far (p := ⟨g, i * 3, none⟩) (by dsimp only; omega) (.int .i64 x.f)
                have B7 := B7.far (p := ⟨g, i * 3, none⟩) (by dsimp only; omega) (.int .i64 x.f)
                have EW := ext_set EW (p := ⟨g, i * 3, none⟩) (by dsimp only; omega) (.int .i64 x.f)
                rw [← hFa.out] at P3 B5 B7 EW ⊢
                obtain ⟨_, hge, -, hgD, rzg, rg0, rg1, rg2⟩ := Row.out.atSet hiM
                cases hge
                refine wp_region_tailb 11 (by kernel_rfl) (by kernel_rfl) (fun w' => w'.cell? ⟨w1.heap.size, 1, none⟩ = some (Value.slice (some ⟨g, 0, none⟩) p.bs.length cc) ∧ w'.cell? ⟨g, i * 3 + 2, none⟩ = some (Value.int .i64 c.m) ∧ w'.cell? ⟨wx.heap.size, 2, none⟩ = some (Value.int .i64 x.lo)) ?_ ?_
                · exact ⟨P3.cell0 rfl, rg2, B7.cell0 rfl⟩
                intro hHeld
                obtain ⟨Fb, hFb⟩ : ∃ Fb, Hid (Fb = Fa.drew) := ⟨_, rfl⟩
                have Row : Hid (Bds Fb W.heap.size (.slice (some ⟨g, 0, none⟩) p.bs.length cc) (M.set i ⟨x.f, c.t, c.m⟩)) := by rw [hFb.out]; exact Lib.hid Row.out.drew
                have P3 := P3.drew
                have B5 := B5.drew
                have B7 := B7.drew
                have EW := ext_drew EW
                rw [← hFb.out] at hHeld P3 B5 B7 EW ⊢
                clear rzg rg0 rg1 rg2 hgD
                simp only [List.pop_toArray, List.dropLast]
                try simp only [Act.put, List.setIfInBounds_toArray, List.set_cons_zero, List.set_cons_succ]
                refine wpAnyH_take (i := 0) (v := ?_) rfl (by kernel_rfl) (by kernel_rfl) (by kernel_rfl) (fun _ _ _ h => h) (Or.inl ⟨by rfl, fun w' hS' => ?_⟩) (by assumption) ?_
                rotate_left
                · (try dsimp only at hS'); go_simp; (try rw [if_pos (by omega)]); try with_reducible rfl
                try simp only [Act.put, List.getElem_toArray, List.getElem_cons_zero, List.getElem_cons_succ, List.setIfInBounds_toArray, List.set_cons_zero, List.set_cons_succ]
                refine wpAnyH_take (i := 1) (v := ?_) rfl (by kernel_rfl) (by kernel_rfl) (by kernel_rfl) (fun _ _ _ h => h) (Or.inl ⟨by rfl, fun w' hS' => ?_⟩) (by assumption) ?_
                rotate_left
                · (try dsimp only at hS'); go_simp; (try rw [if_pos (by omega)]); try with_reducible rfl
                try simp only [Act.put, List.getElem_toArray, List.getElem_cons_zero, List.getElem_cons_succ, List.setIfInBounds_toArray, List.set_cons_zero, List.set_cons_succ]
                refine wpAnyH_take (i := 2) (v := ?_) rfl (by kernel_rfl) (by kernel_rfl) (by kernel_rfl) (fun _ _ _ h => h) (Or.inl ⟨by rfl, fun w' hS' => ?_⟩) (by assumption) ?_
                rotate_left
                · (try dsimp only at hS'); go_simp; (try rw [if_pos (by omega)]); try with_reducible rfl
                try simp only [Act.put, List.getElem_toArray, List.getElem_cons_zero, List.getElem_cons_succ, List.setIfInBounds_toArray, List.set_cons_zero, List.set_cons_succ]
                refine wpAnyH_take (i := 3) (v := ?_) rfl (by kernel_rfl) (by kernel_rfl) (by kernel_rfl) (fun _ _ _ h => h) (Or.inl ⟨by rfl, fun w' hS' => ?_⟩) (by assumption) ?_
                rotate_left
                · (try dsimp only at hS'); go_simp; (try rw [if_pos (by omega)]); try with_reducible rfl
                try simp only [Act.put, List.getElem_toArray, List.getElem_cons_zero, List.getElem_cons_succ, List.setIfInBounds_toArray, List.set_cons_zero, List.set_cons_succ]
                refine wpAnyH_take (i := 4) (v := ?_) rfl (by kernel_rfl) (by kernel_rfl) (by kernel_rfl) (fun _ _ _ h => h) (Or.inl ⟨by rfl, fun w' hS' => ?_⟩) (by assumption) ?_
                rotate_left
                · (try dsimp only at hS'); go_simp; (try rw [if_pos (by omega)]); try with_reducible rfl
                try simp only [Act.put, List.getElem_toArray, List.getElem_cons_zero, List.getElem_cons_succ, List.setIfInBounds_toArray, List.set_cons_zero, List.set_cons_succ]
                refine wpAnyH_take (i := 5) (v := ?_) rfl (by kernel_rfl) (by kernel_rfl) (by kernel_rfl) (fun _ _ _ h => h) (Or.inl ⟨by rfl, fun w' hS' => ?_⟩) (by assumption) ?_
                rotate_left
                · (try dsimp only at hS'); go_simp; (try rw [if_pos (by omega)]); try with_reducible rfl
                try simp only [Act.put, List.getElem_toArray, List.getElem_cons_zero, List.getElem_cons_succ, List.setIfInBounds_toArray, List.set_cons_zero, List.set_cons_succ]
                refine wpAnyH_take (i := 6) (v := ?_) rfl (by kernel_rfl) (by kernel_rfl) (by kernel_rfl) (fun _ _ _ h => h) (Or.inl ⟨by rfl, fun w' hS' => ?_⟩) (by assumption) ?_
                rotate_left
                · (try dsimp only at hS'); go_simp; (try rw [if_pos (by omega)]); try with_reducible rfl
                try simp only [Act.put, List.getElem_toArray, List.getElem_cons_zero, List.getElem_cons_succ, List.setIfInBounds_toArray, List.set_cons_zero, List.set_cons_succ]
                refine wpAnyH_take (i := 7) (v := ?_) rfl (by kernel_rfl) (by kernel_rfl) (by kernel_rfl) (fun _ _ _ h => h) (Or.inl ⟨by rfl, fun w' hS' => ?_⟩) (by assumption) ?_
                rotate_left
                · (try dsimp only at hS'); go_simp; (try rw [if_pos (by omega)]); try with_reducible rfl
                try simp only [Act.put, List.getElem_toArray, List.getElem_cons_zero, List.getElem_cons_succ, List.setIfInBounds_toArray, List.set_cons_zero, List.set_cons_succ]
                refine wpAnyH_take (i := 8) (v := ?_) rfl (by kernel_rfl) (by kernel_rfl) (by kernel_rfl) (fun _ _ _ h => h) (Or.inl ⟨by rfl, fun w' hS' => ?_⟩) (by assumption) ?_
                rotate_left
                · (try dsimp only at hS'); go_simp; (try rw [if_pos (by omega)]); try with_reducible rfl
                try simp only [Act.put, List.getElem_toArray, List.getElem_cons_zero, List.getElem_cons_succ, List.setIfInBounds_toArray, List.set_cons_zero, List.set_cons_succ]
                refine wpAnyH_take (i := 9) (v := ?_) rfl (by kernel_rfl) (by kernel_rfl) (by kernel_rfl) (fun _ _ _ h => h) (Or.inl ⟨by rfl, fun w' hS' => ?_⟩) (by assumption) ?_
                rotate_left
                · (try dsimp only at hS'); go_simp; (try rw [if_pos (by omega)]); try with_reducible rfl
                try simp only [Act.put, List.getElem_toArray, List.getElem_cons_zero, List.getElem_cons_succ, List.setIfInBounds_toArray, List.set_cons_zero, List.set_cons_succ]
                refine wpAnyH_take (i := 10) (v := ?_) rfl (by kernel_rfl) (by kernel_rfl) (by kernel_rfl) (fun _ _ _ h => h) (Or.inl ⟨by rfl, fun w' hS' => ?_⟩) (by assumption) ?_
                rotate_left
                · (try dsimp only at hS'); go_simp; (try rw [if_pos (by omega)]); try with_reducible rfl
                try simp only [Act.put, List.getElem_toArray, List.getElem_cons_zero, List.getElem_cons_succ, List.setIfInBounds_toArray, List.set_cons_zero, List.set_cons_succ]
                obtain ⟨_, hge, -, hgD, rzg, rg0, rg1, rg2⟩ := Row.out.atSet hiM
                cases hge
                refine wpAnyH_done (by kernel_rfl) ?_ _
                refine tail_step rfl (fun K' hK => ?_)
                refine if_yes (by rfl) ?_
                try simp only [Act.put, List.getElem_toArray, List.getElem_cons_zero, List.getElem_cons_succ, List.setIfInBounds_toArray, List.set_cons_zero, List.set_cons_succ]
                go_simp
                refine hK _ _ ?_
                clear hK K'
                try simp only [Act.put, List.getElem_toArray, List.getElem_cons_zero, List.getElem_cons_succ, List.setIfInBounds_toArray, List.set_cons_zero, List.set_cons_succ]
                rw [show IntKind.i64.wrap (c.m + x.lo) = c.m + x.lo from IntWalk.i64_in _ (by omega)]
                clear rzg rg0 rg1 rg2 hgD
                obtain ⟨Fc, hFc⟩ : ∃ Fc, Hid (Fc = Fb.setCell ⟨g, i * 3 + 2, none⟩ (.int .i64 (c.m + x.lo))) := ⟨_, rfl⟩
                have Row : Hid (Bds Fc W.heap.size (.slice (some ⟨g, 0, none⟩) p.bs.length cc) (M.set i ⟨x.f, c.t, c.m + x.lo⟩)) := by rw [hFc.out]; exact Lib.hid (Row.out.putM hiM _)
                have P3 := P3.far (p := ⟨g, i * 3 + 2, none⟩) (by dsimp only; omega) (.int .i64 (c.m + x.lo))
                have B5 := B5.far (p := ⟨g, i * 3 + 2, none⟩) (by dsimp only; omega) (.int .i64 (c.m + x.lo))
                have B7 := B7.far (p := ⟨g, i * 3 + 2, none⟩) (by dsimp only; omega) (.int .i64 (c.m + x.lo))
                have EW := ext_set EW (p := ⟨g, i * 3 + 2, none⟩) (by dsimp only; omega) (.int .i64 (c.m + x.lo))
                rw [← hFc.out] at P3 B5 B7 EW ⊢
                go_wp2_with fail
                go_roundg (l.length - (k+1))
                case rel =>
                  refine ⟨k+1, by omega, rfl, by go_num, ?_, EW, P3, B5⟩
                  have hcn : curI o l (k+1) = ⟨x.f, c.t, c.m + x.lo⟩ := by
                    rw [curI_succ o l k hlk, ← hx.out, ← hcc.out, stepI]
                    rw [stepT, if_neg E1.out, stepF, if_pos E2.out]
                  rw [hcn]
                  exact Row
                case measure => have := Hkk.out; omega

              · skip
                have he1 : (o.t == x.t) = false := by simp [e1]
                have he2 : (o.f == x.t) = false := by simp [e2]
                have E1 := Lib.hid e1
                have E2 := Lib.hid e2
                clear e1 e2
                obtain ⟨rc5, rz5⟩ := (B5).rules; have rl5 := (B5).lt
                obtain ⟨rc7, rz7⟩ := (B7).rules; have rl7 := (B7).lt
                go_wp2_with fail
                go_roundg (l.length - (k+1))
                case rel =>
                  refine ⟨k+1, by omega, rfl, by go_num, ?_, EW, P3, B5⟩
                  have hcn : curI o l (k+1) = c := by
                    rw [curI_succ o l k hlk, ← hx.out, ← hcc.out, stepI]
                    rw [stepT, if_neg E1.out, stepF, if_neg E2.out]
                  rw [hcn]
                  exact Row
                case measure => have := Hkk.out; omega

          · have hkl : k = l.length := by omega
            have Hkl := Lib.hid hkl
            clear hkl
            go_wp2_with fail
            go_roundg (p.bs.length - (i+1))
            case rel =>
              refine ⟨i+1, by omega, rfl, by go_num, ?_, EW, P3⟩
              rw [← mixI_next l p.bs i hlt, ← ho.out, ← hM.out, strI, if_neg Hft.out, ← Hkl.out]
              exact Row
            case measure => have := Hki.out; omega
    · have hil : i = p.bs.length := by omega
      have Row : Hid (Bds wr W.heap.size (.slice ac p.bs.length cc) (p.bs.map (strI l))) := by rw [show p.bs.map (strI l) = mixI l p.bs i by rw [hil]; exact (mixI_all l p.bs).symm]; exact Row
      have R1 := R1.ext EW
      clear hil
      obtain ⟨rc1, rz1⟩ := (R1).rules; have rl1 := (R1).lt
      obtain ⟨rc3, rz3⟩ := (P3).rules; have rl3 := (P3).lt
      go_wp2_with fail
      refine bodyPost_ret (v := .agg #[.int .i64 p.pts, .slice ac p.bs.length cc]) (by simp [results, Try.results69, go_sem, *]) rfl ?_
      exact ⟨_, rfl, ((Row.out.low (by dsimp only; omega) _).low (by dsimp only; omega) _).base (by omega), ext_set (ext_set Ew (by simp) _) (by simp) _⟩
end Go.Proofs.Ytlcmhcfnmohgmaa
