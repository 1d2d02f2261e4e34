/- The walks of the functions on plans and times: TimesOk, keptBy, KeepsOk, BrokenOf, MovedBy. Conditions: the bounds and the times can be read, and are at most a million. -/
import Derived.Test.YtffcfambgcaikaaAllIn
import Derived.Test.YtffcfambgcaikaaApp
import Derived.Deep.Cut
namespace Go.Proofs.Ytffcfambgcaikaa
open Go.RowKit
set_option linter.unusedVariables false
set_option linter.unusedSimpArgs false
set_option maxHeartbeats 400000 in
theorem indexFuncM (fv : FuncId) (cp : Array Value) (p : Bd → Bool) (S : World → Prop) (hS : ∀ w w', S w → Below w.heap.size w w' → S w')
   (v : Value) (l : List Bd) (hf : ∀ b w, b ∈ l → S w → Calls Try.prog fv (#[b.val] ++ cp) w (fun e w' => e = .returned (.bool (p b)) ∧ Below w.heap.size w w'))
   (hcf : ∀ args w, (callFunc fv args).run Try.prog w = .ok (.enter fv args) w)
   (w : World) (hw : S w) (hv : Bds w 0 v l) :
    Calls Try.prog 88 #[v, .func (.func fv) #[] cp] w fun e w' => e = .returned (.int .i64 (fidx (l.findIdx? p))) ∧ Below w.heap.size w w' := by
  have Hv := Lib.hid hv
  obtain ⟨a, cap, rfl, hn, hc, -⟩ := hv.open
  clear hv
  go_enter Try.func88, Try.ntmps88
  go_wp2_with fail
  go_loopg [4, 5, 8] l.length (fun n r i k wr => ∃ j : Nat, j ≤ l.length ∧ n = l.length - j ∧ k = .int .i64 j ∧ Below w.heap.size w wr ∧ S wr ∧ (l.take j).findIdx? p = none)
  case atStart => exact ⟨0, by omega, by omega, rfl, ext_refl _, hw, rfl⟩
  case round =>
    obtain ⟨j, hj, hgk, rfl, hb, hs, hf0⟩ := hrel
    have Hf := Lib.hid hf0; have Hs := Lib.hid hs; have Hh := Lib.hid hf; have HS := Lib.hid hS; have Hk := Lib.hid hgk
    clear hf0 hs hf hS hgk
    by_cases hlt : j < l.length
    · obtain ⟨g, rfl, _, hg, _, c0, c1, c2⟩ := (Hv.out.ext hb).at_ hlt
      have Hj := Lib.hid (getD_of l j Bd.z hlt)
      obtain ⟨b, hbe⟩ : ∃ b, Hid (b = l.getD j Bd.z) := ⟨_, rfl⟩
      rw [← hbe.out] at c0 c1 c2 Hj
      go_wp2_with fail
      refine (Hh.out b wr (List.mem_of_getElem? Hj.out) Hs.out).mono ?_
      rintro e w' ⟨rfl, hb3⟩
      have hb4 := ext_trans hb hb3
      have HS' := Lib.hid (HS.out _ _ Hs.out hb3)
      by_cases hp : p b = true
      · rw [hp]
        go_wp2
        go_ret
        refine ⟨?_, hb4⟩
        have hb2 := Hj.out; have hf0 := Hf.out
        rw [findIdx_at p l j b hb2 hf0 hp]; rfl
      · simp only [Bool.not_eq_true] at hp
        rw [hp]
        go_wp2
        go_roundg (l.length - (j+1))
        case rel => exact ⟨j+1, by omega, rfl, by go_num, hb4, HS'.out, findIdx_next p l j b Hj.out Hf.out hp⟩
        case measure => have := Hk.out; omega
    · go_wp2
      go_ret
      refine ⟨?_, hb⟩
      have hf0 := Hf.out
      have : j = l.length := by omega
      subst this
      simp at hf0
      rw [show l.findIdx? p = none by simpa using hf0]; rfl
set_option maxHeartbeats 400000 in
theorem containsFuncM (fv : FuncId) (cp : Array Value) (p : Bd → Bool) (S : World → Prop) (hS : ∀ w w', S w → Below w.heap.size w w' → S w')
   (v : Value) (l : List Bd) (hf : ∀ b w, b ∈ l → S w → Calls Try.prog fv (#[b.val] ++ cp) w (fun e w' => e = .returned (.bool (p b)) ∧ Below w.heap.size w w'))
   (hcf : ∀ args w, (callFunc fv args).run Try.prog w = .ok (.enter fv args) w)
   (w : World) (hw : S w) (hv : Bds w 0 v l) :
    Calls Try.prog 58 #[v, .func (.func fv) #[] cp] w fun e w' => e = .returned (.bool (l.any p)) ∧ Below w.heap.size w w' := by
  have H := Lib.hid (indexFuncM fv cp p S hS v l hf hcf w hw hv)
  clear hS hf hcf hv
  go_enter Try.func58, Try.ntmps58
  go_wp2_with fail
  refine H.out.mono ?_
  rintro e w' ⟨rfl, hb⟩
  go_wp2_with fail
  go_ret
  exact ⟨by rw [fidx_nonneg]; simp, hb⟩
def inT (t : Int) : Bool := inB t (-2000) 2000
def timesOk (p : Pl) (l : List Int) : Bool := p.ok && (decide ((l.length : Int) = p.pts) && l.all inT)
def keptB (l : List Int) (b : Bd) : Bool := decide (l.getD b.t.toNat 0 - l.getD b.f.toNat 0 ≤ b.m)
def keeps (p : Pl) (l : List Int) : Bool := timesOk p l && p.bs.all (keptB l)
theorem times_in {p : Pl} {l : List Int} (h : timesOk p l = true) : p.ok = true ∧ (l.length : Int) = p.pts ∧ (∀ j, j < l.length → -2000 ≤ l.getD j 0 ∧ l.getD j 0 ≤ 2000) ∧
    ∀ b ∈ p.bs, 0 ≤ b.f ∧ b.f < l.length ∧ 0 ≤ b.t ∧ b.t < l.length ∧ -99 ≤ b.m ∧ b.m ≤ 99 := by
  simp only [timesOk, Bool.and_eq_true, decide_eq_true_eq, List.all_eq_true] at h
  obtain ⟨h1, h2, h3⟩ := h
  refine ⟨h1, h2, fun j hj => ?_, fun b hb => ?_⟩
  · have := h3 (l.getD j 0) (by rw [List.getD_eq_getElem?_getD, List.getElem?_eq_getElem hj]; exact List.getElem_mem hj)
    exact (inB_iff _ _ _).1 this
  · simp only [Pl.ok, Bool.and_eq_true, decide_eq_true_eq, List.all_eq_true] at h1
    have := h1.2.2 b hb
    simp only [Bd.ok, Bool.and_eq_true, inB_iff] at this
    omega
set_option maxHeartbeats 1000000 in
theorem impl_TimesOk (p : Pl) (bs : Value) (v : Value) (l : List Int) (w : World) (hp : Bds w 0 bs p.bs) (hv : Ints w 0 v l) :
    Calls Try.prog 57 #[.agg #[.int .i64 p.pts, bs], v] w fun e w' => e = .returned (.bool (timesOk p l)) ∧ Below w.heap.size w w' := by
  have Hp := Lib.hid hp; have Hv := Lib.hid hv
  obtain ⟨a, cap, rfl, hn, hc, -⟩ := hp.open
  obtain ⟨a', cap', rfl, hn', hc', -⟩ := hv.open
  clear hp hv
  go_enter Try.func57, Try.ntmps57
  go_wp2_with fail
  obtain ⟨W, hW, A0, hs, E⟩ := one_box w #[.int .i64 p.pts, .slice a p.bs.length cap] 25
  rw [← hW.out]
  refine (impl_PlanOk p _ _ (Hp.out.ext E)).mono ?_
  rintro e w1 ⟨rfl, hb1⟩
  have A0 := A0.ext hb1
  have E := ext_trans E hb1
  obtain ⟨rc0, rz0⟩ := (A0).rules; have rl0 := (A0).lt
  cases hok : p.ok
  · go_wp2_with fail
    go_ret
    exact ⟨by simp [timesOk, hok], E⟩
  · by_cases hlen : (l.length : Int) = p.pts
    · have he : ((l.length : Int) == p.pts) = true := by simp [hlen]
      have Hlen := Lib.hid hlen
      clear hlen
      go_wp2_with fail
      refine (impl_allIn _ l (-2000) 2000 _ (Hv.out.ext E)).mono ?_
      rintro e w2 ⟨rfl, hb2⟩
      go_wp2_with fail
      go_ret
      refine ⟨?_, ext_trans E hb2⟩
      have : timesOk p l = l.all fun n => inB n (-2000) 2000 := by simp [timesOk, hok, Hlen.out]; rfl
      rw [this]; rfl
    · have he : ((l.length : Int) == p.pts) = false := by simp [hlen]
      have Hlen := Lib.hid hlen
      clear hlen
      go_wp2_with fail
      go_ret
      exact ⟨by simp [timesOk, hok, Hlen.out], E⟩
set_option maxHeartbeats 1000000 in
theorem impl_keptBy (b : Bd) (v : Value) (l : List Int) (w : World) (hv : Ints w 0 v l) (hr : ∀ j, j < l.length → -2000 ≤ l.getD j 0 ∧ l.getD j 0 ≤ 2000)
    (hb : 0 ≤ b.f ∧ b.f < l.length ∧ 0 ≤ b.t ∧ b.t < l.length ∧ -99 ≤ b.m ∧ b.m ≤ 99) :
    Calls Try.prog 60 #[b.val, v] w fun e w' => e = .returned (.bool (keptB l b)) ∧ Below w.heap.size w w' := by
  obtain ⟨f, t, m⟩ := b
  dsimp only at hb
  obtain ⟨hf0, hf1, ht0, ht1, hm⟩ := hb
  obtain ⟨f, rfl⟩ := Int.eq_ofNat_of_zero_le hf0
  obtain ⟨t, rfl⟩ := Int.eq_ofNat_of_zero_le ht0
  have Hv := Lib.hid hv
  obtain ⟨a, cap, rfl, hn, hc, -⟩ := hv.open
  have rf := hr f (by omega)
  have rt := hr t (by omega)
  obtain ⟨g, rfl, _, hg, _, cf⟩ := (Hv.out.ext (ext_alloc (ext_refl w) (.cells #[.int .i64 f, .int .i64 t, .int .i64 m] 78))).at_ (j := f) (by omega)
  obtain ⟨_, he, _, _, _, ct⟩ := (Hv.out.ext (ext_alloc (ext_refl w) (.cells #[.int .i64 f, .int .i64 t, .int .i64 m] 78))).at_ (j := t) (by omega)
  cases he
  have Hk := Lib.hid (show keptB l ⟨f, t, m⟩ = decide (l.getD t 0 - l.getD f 0 ≤ m) from rfl)
  clear hv hr
  obtain ⟨vf, hvf⟩ : ∃ x, Hid (x = l.getD f 0) := ⟨_, rfl⟩
  obtain ⟨vt, hvt⟩ : ∃ x, Hid (x = l.getD t 0) := ⟨_, rfl⟩
  rw [← hvf.out] at cf rf Hk
  rw [← hvt.out] at ct rt Hk
  rw [Hk.out]
  unfold Bd.val
  go_enter Try.func60, Try.ntmps60
  go_wp2_with fail
  obtain ⟨W, hW, A0, hs, E⟩ := one_box w #[.int .i64 f, .int .i64 t, .int .i64 m] 78
  rw [← hW.out] at cf ct ⊢
  obtain ⟨rc0, rz0⟩ := (A0).rules; have rl0 := (A0).lt
  go_quiet (fail)
  go_wp2_with fail
  go_ret
  refine ⟨?_, ext_trans E ?_⟩
  · rfl
  · exact ⟨rfl, rfl, rfl, Nat.le_refl _, fun _ _ => rfl⟩
theorem call_KeepsOk1 (args : Array Value) (w : World) : (callFunc 59 args).run Try.prog w = .ok (.enter 59 args) w := by go_simp
set_option maxHeartbeats 1000000 in
theorem impl_KeepsOk1 (b : Bd) (v : Value) (l : List Int) (g : Nat) (w : World) (hv : Ints w 0 v l) (hg : g < w.heap.size) (hc : w.cell? ⟨g, 0, none⟩ = some v) (hr : ∀ j, j < l.length → -2000 ≤ l.getD j 0 ∧ l.getD j 0 ≤ 2000)
    (hb : 0 ≤ b.f ∧ b.f < l.length ∧ 0 ≤ b.t ∧ b.t < l.length ∧ -99 ≤ b.m ∧ b.m ≤ 99) :
    Calls Try.prog 59 #[b.val, .pointer (some ⟨g, 0, none⟩)] w fun e w' => e = .returned (.bool (!keptB l b)) ∧ Below w.heap.size w w' := by
  have Hv := Lib.hid hv; have Hr := Lib.hid hr; have Hb := Lib.hid hb
  obtain ⟨a, cap, rfl, hn, hcap, -⟩ := hv.open
  clear hv hr hb
  unfold Bd.val
  go_enter Try.func59, Try.ntmps59
  go_wp2_with fail
  refine (impl_keptBy b _ l _ (Hv.out.ext (ext_alloc (ext_refl _) _)) Hr.out Hb.out).mono ?_
  rintro e w1 ⟨rfl, hb1⟩
  go_wp2_with fail
  go_ret
  exact ⟨rfl, ext_trans (ext_alloc (ext_refl _) _) hb1⟩
set_option maxHeartbeats 2000000 in
theorem impl_KeepsOk (p : Pl) (bs : Value) (v : Value) (l : List Int) (w : World) (hp : Bds w 0 bs p.bs) (hv : Ints w 0 v l) :
    Calls Try.prog 22 #[.agg #[.int .i64 p.pts, bs], v] w fun e w' => e = .returned (.bool (keeps p l)) ∧ Below w.heap.size w w' := by
  have Hp := Lib.hid hp; have Hv := Lib.hid hv
  obtain ⟨a, cap, rfl, hn, hc, -⟩ := hp.open
  obtain ⟨a', cap', rfl, hn', hc', -⟩ := hv.open
  clear hp hv
  go_enter Try.func22, Try.ntmps22
  go_wp2_with fail
  obtain ⟨W, hW, A0, A1, hs, E⟩ := two_boxes w #[.int .i64 p.pts, .slice a p.bs.length cap] #[.slice a' l.length cap'] 25 41
  rw [← hW.out]
  refine (impl_TimesOk p _ _ l _ (Hp.out.ext E) (Hv.out.ext E)).mono ?_
  rintro e w1 ⟨rfl, hb1⟩
  have A0 := A0.ext hb1; have A1 := A1.ext hb1
  have E := ext_trans E hb1
  obtain ⟨rc0, rz0⟩ := (A0).rules; have rl0 := (A0).lt
  obtain ⟨rc1, rz1⟩ := (A1).rules; have rl1 := (A1).lt
  cases hok : timesOk p l
  · go_wp2_with fail
    go_ret
    exact ⟨by rw [show keeps p l = false by simp [keeps, hok]]; rfl, E⟩
  · obtain ⟨h1, h2, h3, h4⟩ := times_in hok
    have H3 := Lib.hid h3; have H4 := Lib.hid h4; have Hok := Lib.hid hok
    clear h1 h2 h3 h4 hok
    go_wp2_with fail
    refine (containsFuncM 59 #[.pointer (some ⟨w.heap.size + 1, 0, none⟩)] (fun b => !keptB l b) (fun w' => Box w' (w.heap.size + 1) 41 #[.slice a' l.length cap'] ∧ Ints w' 0 (.slice a' l.length cap') l)
      (fun w1 w2 h1 h2 => ⟨h1.1.ext h2, h1.2.ext h2⟩) _ p.bs
      (fun b w1 hb h1 => by rw [app1]; exact impl_KeepsOk1 b _ l (w.heap.size + 1) w1 h1.2 h1.1.lt (h1.1.cell0 rfl) H3.out (H4.out b hb)) call_KeepsOk1 _ ⟨A1, Hv.out.ext E⟩ (Hp.out.ext E)).mono ?_
    rintro e w2 ⟨rfl, hb2⟩
    go_wp2_with fail
    go_ret
    refine ⟨?_, ext_trans E hb2⟩
    rw [any_not_eq, show keeps p l = p.bs.all (keptB l) by simp [keeps, Hok.out]]; rfl
end Go.Proofs.Ytffcfambgcaikaa
