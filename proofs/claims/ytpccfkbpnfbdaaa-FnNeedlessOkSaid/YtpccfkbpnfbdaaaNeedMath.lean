/- Plain facts on needless bounds. Conditions as each lemma names them. -/
import Derived.Test.YtpccfkbpnfbdaaaNeedless
import Derived.Test.YtpccfkbpnfbdaaaTight
namespace Go.Proofs.Ytpccfkbpnfbdaaa
open Go.RowKit
set_option linter.unusedVariables false
set_option linter.unusedSimpArgs false
theorem sub_tab {bs bs' : List Bd} (h : ∀ b ∈ bs', b ∈ bs) (i j : Nat) : tab0 bs i j ≤ tab0 bs' i j :=
  le_tab0.2 ⟨(le_tab0.1 (Int.le_refl _)).1, fun b hb hf ht => (le_tab0.1 (Int.le_refl (tab0 bs i j))).2 b (h b hb) hf ht⟩
theorem cut_parts {p : Pl} {k : Int} (h : p.cutOk k = true) : p.ok = true ∧ (0 ≤ k ∧ k < p.bs.length) ∧ p.cut k = ⟨p.pts, p.bs.take k.toNat ++ p.bs.drop (k.toNat + 1)⟩ := by
  have e : p.cut k = ⟨p.pts, p.bs.take k.toNat ++ p.bs.drop (k.toNat + 1)⟩ := if_pos h
  simp only [Pl.cutOk, Bool.and_eq_true, inB_iff] at h
  exact ⟨h.1, by omega, e⟩
theorem cut_good {p : Pl} {k : Int} (h : p.cutOk k = true) : (p.cut k).ok = true ∧ (p.cut k).bs.length + 1 = p.bs.length ∧ (p.cut k).pts = p.pts ∧ (p.fits = true → (p.cut k).fits = true) ∧ p.implies (p.cut k) = true := by
  obtain ⟨h1, h2, h3⟩ := cut_parts h
  rw [h3]
  have hs : ∀ b ∈ p.bs.take k.toNat ++ p.bs.drop (k.toNat + 1), b ∈ p.bs := fun b hb => by
    rcases List.mem_append.1 hb with h | h
    · exact List.mem_of_mem_take h
    · exact List.mem_of_mem_drop h
  have hl : (p.bs.take k.toNat ++ p.bs.drop (k.toNat + 1)).length + 1 = p.bs.length := by rw [List.length_append, List.length_take, List.length_drop]; omega
  have ho : (⟨p.pts, p.bs.take k.toNat ++ p.bs.drop (k.toNat + 1)⟩ : Pl).ok = true := by
    simp only [Pl.ok, Bool.and_eq_true, decide_eq_true_eq, List.all_eq_true] at h1
    have h4 : (p.bs.take k.toNat ++ p.bs.drop (k.toNat + 1)).length ≤ 16 := by omega
    simp only [Pl.ok, Bool.and_eq_true, List.all_eq_true]
    exact ⟨h1.1, decide_eq_true h4, fun b hb => h1.2.2 b (hs b hb)⟩
  refine ⟨ho, hl, rfl, fun hf => fits_mk ho (fits_less (fun i j _ _ => sub_tab hs i j) (fits_ok hf).2), ?_⟩
  simp only [Pl.implies, h1, ho, Bool.true_and, decide_true]
  cases hf : p.fits
  · rfl
  · simp only [Bool.not_true, Bool.false_or]
    exact leB_iff.2 fun i hi j hj => Int.le_trans (upT_le _ _ _ _) (sub_tab hs i j)
theorem split_at {l : List Bd} {k : Nat} (h : k < l.length) : l = l.take k ++ (l.getD k Bd.z :: l.drop (k + 1)) := by
  rw [List.getD_eq_getElem?_getD, List.getElem?_eq_getElem h]
  show l = l.take k ++ (l[k] :: l.drop (k+1))
  rw [List.getElem_cons_drop, List.take_append_drop]
theorem cut_tab {p : Pl} {k : Int} (h : p.cutOk k = true) (i j : Nat) :
    p.tab i j = if (p.bs.getD k.toNat Bd.z).f = (i : Int) ∧ (p.bs.getD k.toNat Bd.z).t = (j : Int) then min ((p.cut k).tab i j) (p.bs.getD k.toNat Bd.z).m else (p.cut k).tab i j := by
  obtain ⟨h1, h2, h3⟩ := cut_parts h
  rw [h3]
  have hk : k.toNat < p.bs.length := by omega
  generalize hb : p.bs.getD k.toNat Bd.z = b
  have hs := split_at hk
  rw [hb] at hs
  have hm : ∀ c, c ∈ p.bs ↔ c = b ∨ c ∈ p.bs.take k.toNat ++ p.bs.drop (k.toNat + 1) := fun c => by
    conv => lhs; rw [hs]
    simp only [List.mem_append, List.mem_cons]
    constructor
    · rintro (h | h | h)
      · exact .inr (.inl h)
      · exact .inl h
      · exact .inr (.inr h)
    · rintro (h | h | h)
      · exact .inr (.inl h)
      · exact .inl h
      · exact .inr (.inr h)
  have key : ∀ x, x ≤ tab0 p.bs i j ↔ x ≤ tab0 (p.bs.take k.toNat ++ p.bs.drop (k.toNat + 1)) i j ∧ (b.f = (i : Int) ∧ b.t = (j : Int) → x ≤ b.m) := fun x => by
    rw [le_tab0, le_tab0]
    constructor
    · rintro ⟨a1, a2⟩
      exact ⟨⟨a1, fun c hc => a2 c ((hm c).2 (.inr hc))⟩, fun hft => a2 b ((hm b).2 (.inl rfl)) hft.1 hft.2⟩
    · rintro ⟨⟨a1, a2⟩, a3⟩
      refine ⟨a1, fun c hc hf ht => ?_⟩
      rcases (hm c).1 hc with rfl | hc
      · exact a3 ⟨hf, ht⟩
      · exact a2 c hc hf ht
  show tab0 p.bs i j = _
  have k1 := (key _).1 (Int.le_refl _)
  split
  · rename_i hft
    have k2 := k1.2 hft
    have k3 := (key (min (tab0 (p.bs.take k.toNat ++ p.bs.drop (k.toNat + 1)) i j) b.m)).2 ⟨by omega, fun _ => by omega⟩
    show tab0 p.bs i j = min (tab0 (p.bs.take k.toNat ++ p.bs.drop (k.toNat + 1)) i j) b.m
    omega
  · rename_i hft
    have k3 := (key (tab0 (p.bs.take k.toNat ++ p.bs.drop (k.toNat + 1)) i j)).2 ⟨Int.le_refl _, fun h => absurd h hft⟩
    show tab0 p.bs i j = tab0 (p.bs.take k.toNat ++ p.bs.drop (k.toNat + 1)) i j
    omega
/-- the bound that is taken away, by its points -/
theorem cut_bound {p : Pl} {k : Int} (h : p.cutOk k = true) : ∃ f t : Nat, (p.bs.getD k.toNat Bd.z).f = (f : Int) ∧ (p.bs.getD k.toNat Bd.z).t = (t : Int) ∧ f < p.n ∧ t < p.n ∧ -99 ≤ (p.bs.getD k.toNat Bd.z).m ∧ (p.bs.getD k.toNat Bd.z).m ≤ 99 := by
  obtain ⟨h1, h2, h3⟩ := cut_parts h
  obtain ⟨⟨f, hf, hfn⟩, ⟨t, ht, htn⟩, hm⟩ := (plok_in h1).2.2.2.2 k.toNat (by omega)
  exact ⟨f, t, hf, ht, hfn, htn, hm⟩
theorem cut_n {p : Pl} {k : Int} (h : p.cutOk k = true) : (p.cut k).n = p.n := by obtain ⟨h1, h2, h3⟩ := cut_parts h; rw [h3]; rfl
/-- the bound alone -/
def Pl.alone (p : Pl) (k : Int) : Pl := ⟨p.pts, [p.bs.getD k.toNat Bd.z]⟩
theorem alone_ok {p : Pl} {k : Int} (h : p.cutOk k = true) : (p.alone k).ok = true := by
  obtain ⟨h1, h2, h3⟩ := cut_parts h
  simp only [Pl.ok, Bool.and_eq_true, decide_eq_true_eq, List.all_eq_true] at h1
  have hm : p.bs.getD k.toNat Bd.z ∈ p.bs := by rw [List.getD_eq_getElem?_getD, List.getElem?_eq_getElem (by omega)]; exact List.getElem_mem _
  have hx := h1.2.2 _ hm
  unfold Pl.alone Pl.ok
  simp only [Bool.and_eq_true, List.all_cons, List.all_nil, Bool.and_true]
  exact ⟨h1.1, decide_eq_true (by simp), hx⟩
theorem clo_le (p : Pl) (i j : Nat) : p.clo i j ≤ p.tab i j := upT_le _ _ _ _
/-- what is asked: nothing fits without it, or it follows without it -/
def Pl.follows (p : Pl) (k : Int) : Prop := (p.cut k).fits = false ∨ ∀ f t : Nat, (p.bs.getD k.toNat Bd.z).f = (f : Int) → (p.bs.getD k.toNat Bd.z).t = (t : Int) → (p.cut k).clo f t ≤ (p.bs.getD k.toNat Bd.z).m
theorem implies_iff {p : Pl} {k : Int} (h : p.cutOk k = true) {q : Pl} (hq : q.ok = true) (hpts : q.pts = p.pts) (hqt : ∀ i j, q.tab i j ≤ 100000)
    (hle : ∀ i j : Nat, i < p.n → j < p.n → ((p.cut k).clo i j ≤ q.tab i j ↔ ((p.bs.getD k.toNat Bd.z).f = (i : Int) ∧ (p.bs.getD k.toNat Bd.z).t = (j : Int) → (p.cut k).clo i j ≤ (p.bs.getD k.toNat Bd.z).m))) : ((p.cut k).implies q = true ↔ p.follows k) := by
  obtain ⟨g1, g2, g3, g4, g5⟩ := cut_good h
  have hn := cut_n h
  unfold Pl.implies Pl.follows
  rw [g1, hq, show decide ((p.cut k).pts = q.pts) = true from decide_eq_true (by rw [g3, hpts]), hn]
  simp only [Bool.true_and, Bool.or_eq_true, Bool.not_eq_true']
  constructor
  · rintro (h1 | h1)
    · exact .inl h1
    · refine .inr fun f t hf ht => ?_
      obtain ⟨f', t', hf', ht', hfn, htn, -⟩ := cut_bound h
      obtain rfl : f = f' := by omega
      obtain rfl : t = t' := by omega
      exact (hle f t hfn htn).1 (leB_iff.1 h1 f hfn t htn) ⟨hf, ht⟩
  · rintro (h1 | h1)
    · exact .inl h1
    · exact .inr (leB_iff.2 fun i hi j hj => (hle i j hi hj).2 fun hft => h1 i j hft.1 hft.2)
theorem needless_iff {p : Pl} {k : Int} (h : p.cutOk k = true) : p.needless k = true ↔ p.follows k := by
  obtain ⟨g1, g2, g3, g4, g5⟩ := cut_good h
  have hok := (cut_parts h).1
  rw [← implies_iff h (q := p) hok rfl (fun i j => tab0_le p.bs i j) ?_]
  · simp only [Pl.needless, Pl.alike, h, g5, Bool.true_and]
  · intro i j hi hj
    rw [cut_tab h i j]
    have hc := clo_le (p.cut k) i j
    split
    · rename_i hft; exact ⟨fun hx _ => by omega, fun hx => by have := hx hft; omega⟩
    · rename_i hft; exact ⟨fun _ hx => absurd hx hft, fun _ => hc⟩
theorem alone_iff {p : Pl} {k : Int} (h : p.cutOk k = true) : (p.cut k).implies (p.alone k) = true ↔ p.follows k := by
  refine implies_iff h (alone_ok h) rfl (fun i j => tab0_le _ i j) fun i j hi hj => ?_
  have hc : (p.cut k).clo i j ≤ if i = j then 0 else 100000 := by
    have := clo_le (p.cut k) i j
    have h2 := (le_tab0.1 (Int.le_refl (tab0 (p.cut k).bs i j))).1
    exact Int.le_trans this h2
  have e : (p.alone k).tab i j = tab0 [p.bs.getD k.toNat Bd.z] i j := rfl
  rw [e, le_tab0]
  constructor
  · rintro ⟨-, h2⟩ hft
    exact h2 _ (List.mem_singleton.2 rfl) hft.1 hft.2
  · intro hx
    exact ⟨hc, fun b hb hf ht => by rw [List.mem_singleton.1 hb] at hf ht ⊢; exact hx ⟨hf, ht⟩⟩
theorem needless_alone {p : Pl} {k : Int} (h : p.cutOk k = true) : (p.cut k).implies (p.alone k) = p.needless k := by
  cases h1 : p.needless k
  · cases h2 : (p.cut k).implies (p.alone k)
    · rfl
    · have := (needless_iff h).2 ((alone_iff h).1 h2); rw [h1] at this; cases this
  · exact (alone_iff h).2 ((needless_iff h).1 h1)
theorem needless_twice {p : Pl} {k : Int} (h : p.cutOk k = true) (hb : p.bs.getD k.toNat Bd.z ∈ (p.cut k).bs) : p.needless k = true := by
  refine (needless_iff h).2 (.inr fun f t hf ht => ?_)
  have := clo_le (p.cut k) f t
  have := (le_tab0.1 (Int.le_refl (tab0 (p.cut k).bs f t))).2 _ hb hf ht
  exact Int.le_trans (clo_le (p.cut k) f t) this
theorem cut_in {p : Pl} {k : Int} (h : p.cutOk k = true) : BdsIn p.n (-99) 99 (p.cut k).bs := by
  have := (plok_in (cut_good h).1).2.2.2.2
  rw [cut_n h] at this
  exact this
theorem needless_loose {p : Pl} {k : Int} (h : p.cutOk k = true) (hf : p.fits = true) (ht : p.tight k = false) : p.needless k = true := by
  obtain ⟨h1, h2, h3⟩ := cut_parts h
  obtain ⟨f, t, hbf, hbt, hfn, htn, hm1, hm2⟩ := cut_bound h
  obtain ⟨q1, q2, q3, q4, q5⟩ := plok_in h1
  refine (needless_iff h).2 (.inr fun f' t' hf' ht' => ?_)
  obtain rfl : f = f' := by omega
  obtain rfl : t = t' := by omega
  have hw : ∀ i j, i < p.n → j < p.n → p.tab i j = withB (p.cut k).tab f t (p.bs.getD k.toNat Bd.z).m i j := fun i j _ _ => by
    rw [cut_tab h i j, hbf, hbt]
    unfold withB
    by_cases e : i = f ∧ j = t
    · rw [if_pos (by omega), if_pos e]
    · rw [if_neg (by omega), if_neg e]
  have hfw : Fits (withB (p.cut k).tab f t (p.bs.getD k.toNat Bd.z).m) p.n := fun i hi => by
    rw [← upT_congr hw p.n (Nat.le_refl _) i i hi hi]; exact (fits_ok hf).2 i hi
  have ns1 : NoSat (p.cut k).tab p.n := tab_nosat q3 (cut_in h)
  have ns2 : NoSat (withB (p.cut k).tab f t (p.bs.getD k.toNat Bd.z).m) p.n := nosat_small q3 (u := 99) (by decide) (by decide) fun i j hi hj hfin => by
    rw [← hw i j hi hj] at hfin ⊢
    exact tab0_high q5 (by decide) i j hfin
  have hne : p.clo f t ≠ (p.bs.getD k.toNat Bd.z).m := fun e => by
    have hk : k = (k.toNat : Int) := by omega
    have : p.tight k = true := by
      unfold Pl.tight Pl.tightAt
      rw [hf, (inB_iff _ _ _).2 ⟨by omega, by omega⟩, hbf, hbt]
      simp only [Bool.true_and, Int.toNat_natCast]
      rw [e]; exact beq_self_eq_true _
    rw [ht] at this; cases this
  have hle : p.clo f t ≤ (p.bs.getD k.toNat Bd.z).m := by
    have h5 := clo_le p f t
    rw [cut_tab h f t, if_pos ⟨hbf, hbt⟩] at h5
    omega
  have heq : upT (withB (p.cut k).tab f t (p.bs.getD k.toNat Bd.z).m) p.n f t = p.clo f t := (upT_congr hw p.n (Nat.le_refl _) f t hfn htn).symm
  have := needless_of (D := (p.cut k).tab) (fun i _ => tab0_diag _ i) ns1 ns2 hfw hfn htn (by omega) (by rw [heq]; omega)
  unfold Pl.clo
  rw [cut_n h]
  exact this
end Go.Proofs.Ytpccfkbpnfbdaaa
