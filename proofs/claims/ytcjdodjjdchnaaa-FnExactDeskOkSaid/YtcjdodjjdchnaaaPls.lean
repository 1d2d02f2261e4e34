/- Rows of plans: in memory, copies of an argument, equality; and DeskOk of both with plans of before. Conditions: at most 1048576 plans and bounds each. -/
import Derived.Test.YtcjdodjjdchnaaaDesk
import Derived.Test.YtcjdodjjdchnaaaLawPlan
namespace Go.Proofs.Ytcjdodjjdchnaaa
open Go.RowKit
set_option linter.unusedVariables false
set_option linter.unusedSimpArgs false
structure Pv where
  p : Pl
  v : Value
def Pv.z : Pv := ⟨Pl.zero, .slice none 0 0⟩
def pvcells (l : List Pv) : List Value := l.flatMap fun x => [.int .i64 x.p.pts, x.v]
theorem pvcells_length (l : List Pv) : (pvcells l).length = l.length * 2 := by
  induction l with
  | nil => rfl
  | cons b l ih => simp [pvcells] at *; omega
theorem pvcells_at (l : List Pv) (i : Nat) (h : i < l.length) : (pvcells l)[i*2]? = some (.int .i64 (l.getD i Pv.z).p.pts) ∧ (pvcells l)[i*2+1]? = some (l.getD i Pv.z).v := by
  induction l generalizing i with
  | nil => simp at h
  | cons c l ih =>
    cases i with
    | zero => simp [pvcells]
    | succ i =>
      have := ih i (by simpa using h)
      have e : (i+1)*2 = i*2+1+1 := by omega
      simp only [pvcells, List.flatMap_cons, List.cons_append, List.nil_append, e] at *
      simpa using this
theorem pvcells_set (l : List Pv) (j : Nat) (x : Pv) (h : j < l.length) : ((pvcells l).set (j * 2) (.int .i64 x.p.pts)).set (j * 2 + 1) x.v = pvcells (l.set j x) := by
  induction l generalizing j with
  | nil => simp at h
  | cons c l ih =>
    cases j with
    | zero => simp [pvcells]
    | succ j =>
      have := ih j (by simpa using h)
      have e : (j+1)*2 = j*2+1+1 := by omega
      simp only [pvcells, List.flatMap_cons, List.cons_append, List.nil_append, e, List.set_cons_succ] at *
      rw [this]
/-- rows of different types lie in different blocks -/
theorem own_ne2 {w : World} {b1 b2 : Nat} {e1 e2 : TypeId} {s1 s2 : Nat} {v1 v2 : Value} {n1 n2 : Nat} {x1 x2 : List Value} (h1 : w.ownsRow b1 e1 s1 v1 n1 x1) (h2 : w.ownsRow b2 e2 s2 v2 n2 x2) (he : e1 ≠ e2) :
    ∀ q, v1.ownBlock = some q → v2.ownBlock ≠ some q := by
  obtain ⟨-, h1⟩ := h1
  obtain ⟨-, h2⟩ := h2
  intro q hq hq'
  rcases h1 with ⟨rfl, -⟩ | ⟨g, cap, cur, rfl, hg, hh, -⟩
  · cases hq
  · cases hq
    rcases h2 with ⟨rfl, -⟩ | ⟨g', cap', cur', rfl, hg', hh', -⟩
    · cases hq'
    · cases hq'
      rw [hh] at hh'
      injection hh' with e
      injection e with e1 e2
      exact he e2
structure Pls (w : World) (base : Nat) (v : Value) (l : List Pv) : Prop where
  o : w.ownsRow base 25 2 v l.length (pvcells l)
  r : ∀ i, i < l.length → Bds w base (l.getD i Pv.z).v (l.getD i Pv.z).p.bs
theorem Pls.open {w : World} {base : Nat} {v : Value} {l : List Pv} (h : Pls w base v l) : ∃ a cap, v = .slice a l.length cap ∧ l.length ≤ cap ∧ cap ≤ 9223372036854775807 := by
  obtain ⟨a, cap, rfl, h1, h2, -⟩ := own_open h.o
  exact ⟨a, cap, rfl, h1, h2⟩
theorem Pls.at_ {w : World} {base n cap : Nat} {a : Option Addr} {l : List Pv} (h : Pls w base (.slice a n cap) l) {j : Nat} (hj : j < l.length) :
    ∃ g ai ci, a = some ⟨g, 0, none⟩ ∧ base ≤ g ∧ g < w.heap.size ∧ (∀ i, w.frozen? ⟨g, i, none⟩ = false) ∧ w.cell? ⟨g, j * 2, none⟩ = some (.int .i64 (l.getD j Pv.z).p.pts) ∧
      w.cell? ⟨g, j * 2 + 1, none⟩ = some (.slice ai (l.getD j Pv.z).p.bs.length ci) ∧ Bds w base (.slice ai (l.getD j Pv.z).p.bs.length ci) (l.getD j Pv.z).p.bs := by
  obtain ⟨a', cap', he, -, -, h3⟩ := own_open h.o
  cases he
  obtain ⟨g, rfl, h4, h5, h6, h7⟩ := h3 (j * 2) (by omega)
  obtain ⟨c0, c1⟩ := pvcells_at l j hj
  have hr := h.r j hj
  obtain ⟨ai, ci, he, -⟩ := hr.open
  rw [he] at c1 hr
  exact ⟨g, ai, ci, rfl, h4, h5, h6, by rw [h7 _ (by omega)]; exact c0, by rw [h7 _ (by omega)]; exact c1, hr⟩
theorem Pls.ext {w w' : World} {base : Nat} {v : Value} {l : List Pv} (h : Pls w base v l) (hb : Below w.heap.size w w') : Pls w' base v l := ⟨own_ext h.o hb, fun i hi => (h.r i hi).ext hb⟩
theorem Pls.base {w : World} {base base' : Nat} {v : Value} {l : List Pv} (h : Pls w base v l) (hb : base' ≤ base) : Pls w base' v l := ⟨own_base h.o hb, fun i hi => (h.r i hi).base hb⟩
theorem getD_set_pv (l : List Pv) (j i : Nat) (x : Pv) (hi : i < l.length) : (l.set j x).getD i Pv.z = if i = j then x else l.getD i Pv.z := by
  rw [List.getD_eq_getElem?_getD, List.getElem?_set, List.getD_eq_getElem?_getD]
  by_cases h : j = i
  · subst h; rw [if_pos rfl, if_pos hi, if_pos rfl]; rfl
  · rw [if_neg h, if_neg (fun e => h e.symm)]
theorem Pls.set {w : World} {base n g cap : Nat} {l : List Pv} (h : Pls w base (.slice (some ⟨g, 0, none⟩) n cap) l) {j : Nat} (hj : j < l.length) (x : Pv) (hx : Bds w base x.v x.p.bs) :
    Pls ((w.setCell ⟨g, j * 2, none⟩ (.int .i64 x.p.pts)).setCell ⟨g, j * 2 + 1, none⟩ x.v) base (.slice (some ⟨g, 0, none⟩) n cap) (l.set j x) := by
  obtain ⟨ho, hr⟩ := h
  have hn : n = l.length := by obtain ⟨_, _, he, _⟩ := own_open ho; cases he; rfl
  subst hn
  have far : ∀ {v : Value} {bl : List Bd}, Bds w base v bl → Bds ((w.setCell ⟨g, j * 2, none⟩ (.int .i64 x.p.pts)).setCell ⟨g, j * 2 + 1, none⟩ x.v) base v bl := fun hb =>
    hb.far (grown_set (i := j * 2 + 1) (grown_set (i := j * 2) (World.grownBy.refl _ (some g)) (.int .i64 x.p.pts)) x.v) (fun k hk e => own_ne2 hb ho (by decide) k hk e)
  refine ⟨?_, fun i hi => ?_⟩
  · rw [List.length_set, ← pvcells_set l j x hj]
    exact ((ho.stored _ _).1.stored _ _).1
  · rw [List.length_set] at hi
    rw [getD_set_pv l j i x hi]
    by_cases hij : i = j
    · rw [if_pos hij]; exact far hx
    · rw [if_neg hij]; exact far (hr i hi)
theorem pv_all_z (n : Nat) : ∀ i, i < n → (List.replicate n Pv.z).getD i Pv.z = Pv.z := by
  intro i hi
  simp [List.getD_eq_getElem?_getD, hi]
theorem made_plans (n : Nat) : (madeCells #[Value.int .i64 0, .slice none 0 0] (n * 2)).toList = pvcells (List.replicate n Pv.z) := by
  apply List.ext_getElem?
  intro i
  by_cases hi : i < n * 2
  · obtain ⟨c0, c1⟩ := pvcells_at (List.replicate n Pv.z) (i / 2) (by rw [List.length_replicate]; omega)
    rw [pv_all_z n _ (by omega)] at c0 c1
    have h3 : i % 2 = 0 ∧ i = i / 2 * 2 ∨ i % 2 = 1 ∧ i = i / 2 * 2 + 1 := by omega
    rcases h3 with ⟨h2, h3⟩ | ⟨h2, h3⟩
    · have e : (madeCells #[Value.int .i64 0, .slice none 0 0] (n * 2)).toList[i]? = some (Value.int .i64 0) := by
        simp [madeCells, hi, h2]
      rw [e, h3]; exact c0.symm
    · have e : (madeCells #[Value.int .i64 0, .slice none 0 0] (n * 2)).toList[i]? = some (Value.slice none 0 0) := by
        simp [madeCells, hi, h2]
      rw [e, h3]; exact c1.symm
  · rw [List.getElem?_eq_none (by simp [madeCells]; omega), List.getElem?_eq_none (by rw [pvcells_length, List.length_replicate]; omega)]
/-! ### plans that came in -/
structure LPl where
  pts : Int
  a : Option Addr
  n : Nat
  cap : Nat
  l : List Bd
def LPl.z : LPl := ⟨0, none, 0, 0, []⟩
def APls (w : World) (a : Option Addr) (n cap : Nat) (L : List LPl) : Prop := L.length = n ∧ n ≤ cap ∧ cap ≤ 9223372036854775807 ∧
  ∀ j, j < n → ∃ b o, a = some ⟨b, o, none⟩ ∧ b < w.heap.size ∧ w.cell? ⟨b, o + j * 2, none⟩ = some (.int .i64 (L.getD j LPl.z).pts) ∧
    w.cell? ⟨b, o + j * 2 + 1, none⟩ = some (.slice (L.getD j LPl.z).a (L.getD j LPl.z).n (L.getD j LPl.z).cap) ∧ ABds w (L.getD j LPl.z).a (L.getD j LPl.z).n (L.getD j LPl.z).cap (L.getD j LPl.z).l
theorem APls.ext {w w' : World} {a : Option Addr} {n cap : Nat} {L : List LPl} (h : APls w a n cap L) (hb : Below w.heap.size w w') : APls w' a n cap L := by
  obtain ⟨h1, h2, h3, h4⟩ := h
  refine ⟨h1, h2, h3, fun j hj => ?_⟩
  obtain ⟨b, o, rfl, g0, g1, g2, g3⟩ := h4 j hj
  exact ⟨b, o, rfl, Nat.lt_of_lt_of_le g0 hb.size, (hb.cell (by exact g0)).trans g1, (hb.cell (by exact g0)).trans g2, g3.ext hb⟩
/-- What szPlanS returns is less than 0, or all rows are short. -/
def RetSz (w : World) (small : Prop) : Ending → World → Prop := fun e w' => ∃ r : Int, e = .returned (.int .i64 r) ∧ -1 ≤ r ∧ r ≤ 1048576 ∧ (0 ≤ r → small) ∧ Below w.heap.size w w'
def smallP (L : List LPl) (n : Nat) : Prop := n ≤ 1048576 ∧ ∀ j, j < n → (L.getD j LPl.z).n ≤ 1048576
set_option maxHeartbeats 2000000 in
theorem laws_szPlanS (a : Option Addr) (n cap : Nat) (L : List LPl) (left : Int) (w : World) (h : APls w a n cap L) (h0 : 0 ≤ left) (h1 : left ≤ 1048576) :
    Calls Try.prog 78 #[.slice a n cap, .int .i64 left] w (RetSz w (smallP L n)) := by
  obtain ⟨hl, hcap, hmax, hcell⟩ := h
  have HL := Lib.hid hl
  have HC := Lib.hid hcell
  clear hl hcell
  by_cases hbig : left - n < 0
  · go_enter Try.func78, Try.ntmps78
    go_wp2_with fail
    go_ret
    exact ⟨-1, rfl, by omega, by omega, fun h => by omega, ext_refl _⟩
  go_enter Try.func78, Try.ntmps78
  go_wp2_with fail
  go_loopg [1, 5] n (fun m r k wr => ∃ (j : Nat) (x : Int), j ≤ n ∧ m = n - j ∧ r = .int .i64 x ∧ k = .int .i64 j ∧ 0 ≤ x ∧ x ≤ 1048576 ∧ Hid (∀ i, i < j → (L.getD i LPl.z).n ≤ 1048576) ∧ Below w.heap.size w wr)
  case atStart => exact ⟨0, _, by omega, by omega, rfl, rfl, by omega, by omega, fun i hi => by omega, ext_refl _⟩
  case round =>
    obtain ⟨j, x, hj, hgk, rfl, rfl, hx0, hx1, Hs, hbel⟩ := hrel
    have Hk := Lib.hid hgk
    clear hgk
    by_cases hlt : j < n
    · obtain ⟨b, o, rfl, g0, g1, g2, g3⟩ := HC.out j hlt
      have d0 := (hbel.cell (by exact g0)).trans g1
      have d1 := (hbel.cell (by exact g0)).trans g2
      clear g1 g2
      obtain ⟨q, hq⟩ : ∃ q : LPl, Hid (q = L.getD j LPl.z) := ⟨_, rfl⟩
      rw [← hq.out] at d0 d1 g3
      obtain ⟨-, k1, k2, -⟩ := g3
      go_wp2_with fail
      refine (laws_szPlan q.pts q.a q.n q.cap x wr hx0 hx1 (by omega)).mono ?_
      rintro e w2 ⟨rfl, hb2⟩
      have hbel2 := ext_trans hbel hb2
      by_cases hs : x - q.n < 0
      · rw [szR_neg hs]
        go_wp2_with fail
        go_ret
        exact ⟨-1, rfl, by omega, by omega, fun h => by omega, hbel2⟩
      · rw [szR_pos hs]
        go_wp2_with fail
        go_roundg (n - (j+1))
        case rel => 
          refine ⟨j+1, x - q.n, by omega, rfl, by first | rfl | go_num, by go_num, by omega, by omega, fun i hi => ?_, hbel2⟩
          by_cases hij : i = j
          · rw [hij, ← hq.out]; omega
          · exact Hs.out i (by omega)
        case measure => have := Hk.out; omega
    · have hjn : j = n := by omega
      have Hjn := Lib.hid hjn
      clear hjn
      go_wp2_with fail
      go_ret
      exact ⟨x, rfl, by omega, hx1, fun _ => ⟨by omega, fun i hi => Hs.out i (by have := Hjn.out; omega)⟩, hbel⟩
set_option maxHeartbeats 2000000 in
theorem laws_szDesk (pts : Int) (a : Option Addr) (n cap : Nat) (a' : Option Addr) (n' cap' : Nat) (L : List LPl) (left : Int) (w : World) (h : APls w a' n' cap' L) (h0 : 0 ≤ left) (h1 : left ≤ 1048576) (hn : n ≤ 9223372036854775807) :
    Calls Try.prog 41 #[.agg #[.int .i64 pts, .slice a n cap, .slice a' n' cap'], .int .i64 left] w (RetSz w (n ≤ 1048576 ∧ smallP L n')) := by
  have H := Lib.hid h
  clear h
  go_enter Try.func41, Try.ntmps41
  go_wp2_with fail
  obtain ⟨W, hW, A0, hs, E⟩ := one_box w #[.int .i64 pts, .slice a n cap, .slice a' n' cap'] 59
  rw [← hW.out]
  obtain ⟨rc0, rz0⟩ := (A0).rules; have rl0 := (A0).lt
  refine (laws_szPlan pts a n cap left _ h0 h1 hn).mono ?_
  rintro e w1 ⟨rfl, hb1⟩
  have A0 := A0.ext hb1
  have E := ext_trans E hb1
  clear rc0 rz0 rl0
  obtain ⟨rc0, rz0⟩ := (A0).rules; have rl0 := (A0).lt
  by_cases hbig : left - n < 0
  · rw [szR_neg hbig]
    go_wp2_with fail
    go_ret
    exact ⟨-1, rfl, by omega, by omega, fun h => by omega, E⟩
  rw [szR_pos hbig]
  go_wp2_with fail
  refine (laws_szPlanS a' n' cap' L (left - n) _ (H.out.ext E) (by omega) (by omega)).mono ?_
  rintro e w2 ⟨r, rfl, hr0, hr1, hr2, hb2⟩
  have HR := Lib.hid hr2
  clear hr2
  have E := ext_trans E hb2
  by_cases hneg : r < 0
  · go_wp2_with fail
    go_ret
    exact ⟨-1, rfl, by omega, by omega, fun h => by omega, E⟩
  · go_wp2_with fail
    go_ret
    exact ⟨r, rfl, by omega, by omega, fun h => ⟨by omega, HR.out h⟩, E⟩
def RetPls (w : World) (ps : List LPl) : Ending → World → Prop := fun e w' => ∃ v l, e = .returned v ∧ Pls w' w.heap.size v l ∧ Hid (l.length = ps.length) ∧ Hid (∀ i, i < ps.length → (l.getD i Pv.z).p = ⟨(ps.getD i LPl.z).pts, (ps.getD i LPl.z).l⟩) ∧ Below w.heap.size w w'
theorem info_plan : (Try.prog.info? 25).map (fun i => (i.zero, i.size, i.bytes)) = some (some (.agg #[.int .i64 0, .slice none 0 0]), 2, 32) := by kernel_rfl
set_option maxRecDepth 100000 in
set_option maxHeartbeats 4000000 in
theorem laws_toPlanS (a : Option Addr) (n cap : Nat) (L : List LPl) (w : World) (h : APls w a n cap L) (hsm : smallP L n) :
    Calls Try.prog 79 #[.slice a n cap] w (RetPls w L) := by
  obtain ⟨hl, hcap, hmax, hcell⟩ := h
  obtain ⟨hn, hsm⟩ := hsm
  obtain ⟨i0, hi, hz0, hz1, hz2⟩ := info_parts info_plan
  have Hi := Lib.hid hi; have Hz0 := Lib.hid hz0; have Hz1 := Lib.hid hz1; have Hz2 := Lib.hid hz2
  have HL := Lib.hid hl
  have HC := Lib.hid hcell
  have HS := Lib.hid hsm
  clear hi hz0 hz1 hz2 hl hcell hsm
  go_enter Try.func79, Try.ntmps79
  go_wp2_with (at_make; refine wpList_make_full _ rfl (.tmp 6) (.tmp 6) 32 rfl w.heap.size 25 i0 _ 2 Try.underlying32 Hi.out Hz0.out Hz1.out .i64 .i64 n n n rfl rfl rfl rfl (by rw [Hz2.out]; omega) (by unfold maxLen; omega) (Nat.le_refl _) ?_; intro w1 hown hgrow)
  have Hown := Lib.hid hown
  have hb1 := ext_grown (ext_refl w) hgrow (by simp)
  have hz1 := hgrow.size
  clear hown hgrow
  have hpl0 : Pls w1 w.heap.size (.slice (some ⟨w.heap.size, 0, none⟩) n n) (List.replicate n Pv.z) := by
    refine ⟨?_, fun i hi => ?_⟩
    · rw [← made_plans, List.length_replicate]
      exact Hown.out
    · rw [List.length_replicate] at hi
      rw [pv_all_z n i hi]
      exact Bds.nil _ _
  go_loopg [4] n (fun m k wr => ∃ (j : Nat) (l : List Pv), j ≤ n ∧ m = n - j ∧ k = .int .i64 j ∧ Pls wr w.heap.size (.slice (some ⟨w.heap.size, 0, none⟩) n n) l ∧ Hid (l.length = n) ∧ Hid (∀ i, i < j → (l.getD i Pv.z).p = ⟨(L.getD i LPl.z).pts, (L.getD i LPl.z).l⟩) ∧ Below w.heap.size w wr)
  case atStart => exact ⟨0, _, by omega, by omega, rfl, hpl0, Lib.hid (List.length_replicate ..), fun i hi => by omega, hb1⟩
  case round =>
    obtain ⟨j, l, hj, hgk, rfl, hbd, Hlen, Hq, hbel⟩ := hrel
    have Hk := Lib.hid hgk; have Hbd := Lib.hid hbd
    clear hgk hbd hpl0
    by_cases hlt : j < n
    · obtain ⟨b, o, rfl, g0, g1, g2, g3⟩ := HC.out j hlt
      have d0 := (hbel.cell (by exact g0)).trans g1
      have d1 := (hbel.cell (by exact g0)).trans g2
      have hqn := HS.out j hlt
      clear g1 g2
      obtain ⟨q, hq⟩ : ∃ q : LPl, Hid (q = L.getD j LPl.z) := ⟨_, rfl⟩
      rw [← hq.out] at d0 d1 g3 hqn
      have G3 := Lib.hid g3
      clear g3
      go_wp2_with fail
      refine (laws_toPlan q.pts q.a q.n q.cap q.l wr (G3.out.ext hbel) hqn).mono ?_
      rintro e w2 ⟨vT, rfl, hT, hb2⟩
      have hwr := hbel.size
      have hT' := hT.base (base' := w.heap.size) hwr
      have HT := Lib.hid hT'
      obtain ⟨aT, cT, rfl, -⟩ := hT.open
      clear hT hT'
      obtain ⟨g', _, _, hg', _, _, hfz, k0, k1, -⟩ := (Hbd.out.ext hb2).at_ (j := j) (by have := Hlen.out; omega)
      cases hg'
      have hbel2 := ext_trans hbel hb2
      go_wp2_with fail
      go_roundg (n - (j+1))
      case rel =>
        refine ⟨j+1, l.set j ⟨⟨q.pts, q.l⟩, .slice aT q.l.length cT⟩, by omega, rfl, by go_num, ?_, Lib.hid (by rw [List.length_set]; exact Hlen.out), fun i hi => ?_, ext_set (ext_set hbel2 (by simp) _) (by simp) _⟩
        · exact (Hbd.out.ext hb2).set (j := j) (by have := Hlen.out; omega) ⟨⟨q.pts, q.l⟩, .slice aT q.l.length cT⟩ HT.out
        · rw [getD_set_pv l j i _ (by have := Hlen.out; omega)]
          by_cases hij : i = j
          · rw [if_pos hij, hij, ← hq.out]
          · rw [if_neg hij]; exact Hq.out i (by omega)
      case measure => have := Hk.out; omega
    · have hjn : j = n := by omega
      have Hjn := Lib.hid hjn
      clear hjn
      go_wp2_with fail
      go_ret
      exact ⟨_, l, rfl, Hbd.out, Lib.hid (by rw [Hlen.out, HL.out]), fun i hi => Hq.out i (by have := Hjn.out; have := HL.out; omega), hbel⟩
end Go.Proofs.Ytcjdodjjdchnaaa
