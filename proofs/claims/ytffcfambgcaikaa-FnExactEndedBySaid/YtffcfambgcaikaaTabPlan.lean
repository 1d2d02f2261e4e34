/- The table of a plan, as a function; whether a plan fits; what its numbers are at most and at least. No program in sight. No condition but those each lemma names. -/
import Derived.Test.YtffcfambgcaikaaTab
import Derived.Test.YtffcfambgcaikaaPlanOk
namespace Go.Proofs.Ytffcfambgcaikaa
open Go.RowKit
set_option linter.unusedVariables false
set_option linter.unusedSimpArgs false
/-- the table of some bounds -/
def tab0 (bs : List Bd) : Tbl := fun i j => bs.foldl (fun acc b => if b.f = (i : Int) ∧ b.t = (j : Int) then min acc b.m else acc) (if i = j then 0 else 100000)
theorem tab0_nil (i j : Nat) : tab0 [] i j = if i = j then 0 else 100000 := rfl
theorem tab0_snoc (bs : List Bd) (b : Bd) (i j : Nat) : tab0 (bs ++ [b]) i j = if b.f = (i : Int) ∧ b.t = (j : Int) then min (tab0 bs i j) b.m else tab0 bs i j := by
  simp [tab0, List.foldl_append]
theorem tab0_take (bs : List Bd) (k : Nat) (h : k < bs.length) (i j : Nat) : tab0 (bs.take (k+1)) i j = if (bs.getD k Bd.z).f = (i : Int) ∧ (bs.getD k Bd.z).t = (j : Int) then min (tab0 (bs.take k) i j) (bs.getD k Bd.z).m else tab0 (bs.take k) i j := by
  rw [List.take_succ_eq_append_getElem h, tab0_snoc]
  simp [List.getD_eq_getElem?_getD, h]
theorem foldl_min_le (i j : Nat) : ∀ (bs : List Bd) (a : Int), bs.foldl (fun acc b => if b.f = (i : Int) ∧ b.t = (j : Int) then min acc b.m else acc) a ≤ a
  | [], a => Int.le_refl _
  | b :: bs, a => by
    rw [List.foldl_cons]
    refine Int.le_trans (foldl_min_le i j bs _) ?_
    split <;> omega
theorem foldl_min_le_of (i j : Nat) : ∀ (bs : List Bd) (a : Int) (b : Bd), b ∈ bs → b.f = (i : Int) → b.t = (j : Int) → bs.foldl (fun acc b => if b.f = (i : Int) ∧ b.t = (j : Int) then min acc b.m else acc) a ≤ b.m
  | [], a, b, h, _, _ => by cases h
  | c :: bs, a, b, h, hf, ht => by
    rw [List.foldl_cons]
    rcases List.mem_cons.1 h with rfl | h
    · refine Int.le_trans (foldl_min_le i j bs _) ?_
      rw [if_pos ⟨hf, ht⟩]; omega
    · exact foldl_min_le_of i j bs _ b h hf ht
theorem le_foldl_min (i j : Nat) (x : Int) : ∀ (bs : List Bd) (a : Int), x ≤ a → (∀ b ∈ bs, b.f = (i : Int) → b.t = (j : Int) → x ≤ b.m) → x ≤ bs.foldl (fun acc b => if b.f = (i : Int) ∧ b.t = (j : Int) then min acc b.m else acc) a
  | [], a, h, _ => h
  | c :: bs, a, h, hb => by
    rw [List.foldl_cons]
    refine le_foldl_min i j x bs _ ?_ fun b hm => hb b (List.mem_cons_of_mem _ hm)
    split
    · rename_i hc; have := hb c List.mem_cons_self hc.1 hc.2; omega
    · exact h
/-- what the table's number is: the greatest that is at most all that is asked -/
theorem le_tab0 {bs : List Bd} {i j : Nat} {x : Int} : x ≤ tab0 bs i j ↔ x ≤ (if i = j then 0 else 100000) ∧ ∀ b ∈ bs, b.f = (i : Int) → b.t = (j : Int) → x ≤ b.m :=
  ⟨fun h => ⟨Int.le_trans h (foldl_min_le i j bs _), fun b hb hf ht => Int.le_trans h (foldl_min_le_of i j bs _ b hb hf ht)⟩, fun h => le_foldl_min i j x bs _ h.1 h.2⟩
theorem tab0_le (bs : List Bd) (i j : Nat) : tab0 bs i j ≤ 100000 := by
  have := (le_tab0.1 (Int.le_refl (tab0 bs i j))).1
  split at this <;> omega
theorem tab0_low {bs : List Bd} {l : Int} (hl : l ≤ 0) (h : ∀ b ∈ bs, l ≤ b.m) (i j : Nat) : l ≤ tab0 bs i j :=
  le_tab0.2 ⟨by split <;> omega, fun b hb _ _ => h b hb⟩
/-- the bounds lie between points -/
def BdsIn (n : Nat) (lo hi : Int) (bs : List Bd) : Prop := ∀ k, k < bs.length → (∃ f : Nat, (bs.getD k Bd.z).f = (f : Int) ∧ f < n) ∧ (∃ t : Nat, (bs.getD k Bd.z).t = (t : Int) ∧ t < n) ∧ lo ≤ (bs.getD k Bd.z).m ∧ (bs.getD k Bd.z).m ≤ hi
def fitB (D : Tbl) (n : Nat) : Bool := (List.range n).all fun i => decide (0 ≤ D i i)
theorem fitB_iff {D : Tbl} {n : Nat} : fitB D n = true ↔ ∀ i, i < n → 0 ≤ D i i := by simp [fitB, List.all_eq_true]
theorem fitB_not {D : Tbl} {n i : Nat} (hi : i < n) (h : D i i < 0) : fitB D n = false := by
  cases hb : fitB D n
  · rfl
  · have := fitB_iff.1 hb i hi; omega
def Pl.n (p : Pl) : Nat := p.pts.toNat
def Pl.tab (p : Pl) : Tbl := tab0 p.bs
def Pl.clo (p : Pl) : Tbl := upT p.tab p.n
def Pl.fits (p : Pl) : Bool := p.ok && fitB p.clo p.n
theorem fits_ok {p : Pl} (h : p.fits = true) : p.ok = true ∧ Fits p.tab p.n := by
  simp only [Pl.fits, Bool.and_eq_true] at h
  exact ⟨h.1, fitB_iff.1 h.2⟩
theorem fits_mk {p : Pl} (h : p.ok = true) (hf : Fits p.tab p.n) : p.fits = true := by
  simp only [Pl.fits, Bool.and_eq_true]
  exact ⟨h, fitB_iff.2 hf⟩
theorem plok_in {p : Pl} (h : p.ok = true) : p.pts = p.n ∧ 1 ≤ p.n ∧ p.n ≤ 6 ∧ p.bs.length ≤ 16 ∧ BdsIn p.n (-99) 99 p.bs := by
  simp only [Pl.ok, Bool.and_eq_true, decide_eq_true_eq, List.all_eq_true, inB_iff] at h
  obtain ⟨⟨h1, h2⟩, h3, h4⟩ := h
  refine ⟨by unfold Pl.n; omega, by unfold Pl.n; omega, by unfold Pl.n; omega, h3, fun k hk => ?_⟩
  have hm : p.bs.getD k Bd.z ∈ p.bs := by rw [List.getD_eq_getElem?_getD, List.getElem?_eq_getElem hk]; exact List.getElem_mem hk
  have := h4 _ hm
  simp only [Bd.ok, Bool.and_eq_true, inB_iff] at this
  refine ⟨⟨(p.bs.getD k Bd.z).f.toNat, by omega, by unfold Pl.n; omega⟩, ⟨(p.bs.getD k Bd.z).t.toNat, by omega, by unfold Pl.n; omega⟩, this.2.2.1, this.2.2.2⟩
theorem in_mem {n : Nat} {lo hi : Int} {bs : List Bd} (h : BdsIn n lo hi bs) {b : Bd} (hb : b ∈ bs) : (∃ f : Nat, b.f = (f : Int) ∧ f < n) ∧ (∃ t : Nat, b.t = (t : Int) ∧ t < n) ∧ lo ≤ b.m ∧ b.m ≤ hi := by
  obtain ⟨k, hk, rfl⟩ := List.mem_iff_getElem.1 hb
  have := h k hk
  rw [List.getD_eq_getElem?_getD, List.getElem?_eq_getElem hk] at this
  exact this
theorem BdsIn.wide {n : Nat} {lo hi lo' hi' : Int} {bs : List Bd} (h : BdsIn n lo hi bs) (h1 : lo' ≤ lo) (h2 : hi ≤ hi') : BdsIn n lo' hi' bs := fun k hk => by
  obtain ⟨a, b, c, d⟩ := h k hk
  exact ⟨a, b, by omega, by omega⟩
theorem tab0_diag (bs : List Bd) (i : Nat) : tab0 bs i i ≤ 0 := by
  have := (le_tab0.1 (Int.le_refl (tab0 bs i i))).1
  rw [if_pos rfl] at this; exact this
theorem tab0_high {n : Nat} {lo hi : Int} {bs : List Bd} (h : BdsIn n lo hi bs) (h0 : 0 ≤ hi) (i j : Nat) (hf : tab0 bs i j < 100000) : tab0 bs i j ≤ hi := by
  rcases Int.lt_or_le hi (tab0 bs i j) with hlt | h1
  · exfalso
    have hx : hi + 1 ≤ tab0 bs i j := hlt
    by_cases hij : i = j
    · have := (le_tab0.1 hx).1; rw [if_pos hij] at this; omega
    · have : (100000 : Int) ≤ tab0 bs i j := le_tab0.2 ⟨by rw [if_neg hij]; omega, fun b hb h1 h2 => by
        have := (le_tab0.1 hx).2 b hb h1 h2
        have := (in_mem h hb).2.2.2
        omega⟩
      omega
  · exact h1
theorem tab0_in {n : Nat} {lo hi : Int} {bs : List Bd} (h : BdsIn n lo hi bs) (h0 : lo ≤ 0) (i j : Nat) : lo ≤ tab0 bs i j ∧ tab0 bs i j ≤ 100000 :=
  ⟨tab0_low h0 (fun b hb => (in_mem h hb).2.2.1) i j, tab0_le bs i j⟩
theorem tab_nosat {n : Nat} {bs : List Bd} (hn : n ≤ 6) (h : BdsIn n (-99) 99 bs) : NoSat (tab0 bs) n :=
  nosat_small hn (u := 99) (by decide) (by decide) fun i j _ _ hf => tab0_high h (by decide) i j hf
theorem tab_ip {n : Nat} (bs : List Bd) : fitB (ipAll n (tab0 bs) n) n = fitB (upT (tab0 bs) n) n := by
  have h := ip_fits_iff (n := n) (T := tab0 bs) fun i _ => tab0_diag bs i
  cases h1 : fitB (upT (tab0 bs) n) n
  · cases h2 : fitB (ipAll n (tab0 bs) n) n
    · rfl
    · have := fitB_iff.2 (h.1 (fitB_iff.1 h2)); rw [show fitB (upT (tab0 bs) n) n = true from this] at h1; cases h1
  · exact fitB_iff.2 (h.2 (fitB_iff.1 h1))
theorem clo_in {p : Pl} (h : p.ok = true) (k : Nat) (hk : k ≤ p.n) (i j : Nat) (hi : i < p.n) (hj : j < p.n) : -6336 ≤ upT p.tab k i j ∧ upT p.tab k i j ≤ 100000 := by
  obtain ⟨h1, h2, h3, h4, h5⟩ := plok_in h
  refine ⟨?_, up_far (fun i j _ _ => tab0_le p.bs i j) k i j hi hj⟩
  have := up_low6 h3 (l := -99) (by decide) (fun i j _ _ => (tab0_in h5 (by decide) i j).1) k hk i j hi hj
  exact this
end Go.Proofs.Ytffcfambgcaikaa
