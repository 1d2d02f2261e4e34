/- The walks of BeginsOk and IdleOf of impl: whether begins are right, how long hands are idle. No condition but that the numbers can be read. -/
import Derived.Test.YtdfcjhcnojgkiaaHands
namespace Go.Proofs.Ytdfcjhcnojgkiaa
open Go.RowKit
set_option linter.unusedVariables false
set_option linter.unusedSimpArgs false
/-- the begin of task i is right -/
def Pj.afterOk (p : Pj) (l : List Int) (i : Nat) : Bool := (List.range i).all fun k => !(bit (p.A i) k) || decide (lF l k + p.L k ≤ lF l i)
def Pj.beginOk (p : Pj) (h : Int) (l : List Int) (i : Nat) : Bool := p.afterOk l i && decide (busyTo (lF l) p.L (lF l i) p.lo.length ≤ h)
def Pj.beginsOk (p : Pj) (h : Int) (l : List Int) : Bool := (p.fit l && inB h 1 3) && (List.range p.lo.length).all (p.beginOk h l)
theorem after_iff {p : Pj} {l : List Int} {i : Nat} : p.afterOk l i = true ↔ ∀ k, k < i → bit (p.A i) k = true → lF l k + p.L k ≤ lF l i := by
  simp only [Pj.afterOk, List.all_eq_true, List.mem_range, Bool.or_eq_true, Bool.not_eq_true', decide_eq_true_eq]
  constructor
  · intro h k hk hb
    rcases h k hk with h1 | h1
    · rw [h1] at hb; cases hb
    · exact h1
  · intro h k hk
    cases hb : bit (p.A i) k
    · exact .inl rfl
    · exact .inr (h k hk hb)
theorem begins_iff {p : Pj} {h : Int} {l : List Int} : p.beginsOk h l = true ↔ p.fit l = true ∧ (1 ≤ h ∧ h ≤ 3) ∧ ∀ i, i < p.lo.length → p.beginOk h l i = true := by
  simp only [Pj.beginsOk, Bool.and_eq_true, List.all_eq_true, List.mem_range, inB_iff]
  exact ⟨fun h => ⟨h.1.1, h.1.2, h.2⟩, fun h => ⟨⟨h.1, h.2.1⟩, h.2.2⟩⟩
theorem begins_not {p : Pj} {h : Int} {l : List Int} {i : Nat} (hi : i < p.lo.length) (hb : p.beginOk h l i = false) : p.beginsOk h l = false := by
  cases hc : p.beginsOk h l
  · rfl
  · have := (begins_iff.1 hc).2.2 i hi
    rw [hb] at this; cases this
theorem after_not {p : Pj} {h : Int} {l : List Int} {i k : Nat} (hk : k < i) (hb : bit (p.A i) k = true) (hlt : lF l i < lF l k + p.L k) : p.beginOk h l i = false := by
  cases hc : p.beginOk h l i
  · rfl
  · simp only [Pj.beginOk, Bool.and_eq_true] at hc
    have := after_iff.1 hc.1 k hk hb
    omega
set_option maxRecDepth 100000 in
set_option maxHeartbeats 8000000 in
theorem impl_BeginsOk (p : Pj) (v1 v2 v3 : Value) (h : Int) (l : List Int) (w : World) (h1 : Ints w 0 v1 p.lo) (h2 : Ints w 0 v2 p.af) (h3 : Ints w 0 v3 l) :
    Calls Try.prog 13 #[.agg #[v1, v2], .int .i64 h, v3] w fun e w' => e = .returned (.bool (p.beginsOk h l)) ∧ Below w.heap.size w w' := by
  have H1 := Lib.hid h1; have H2 := Lib.hid h2; have H3 := Lib.hid h3
  obtain ⟨a1, c1, rfl, hn1, hc1, -⟩ := h1.open
  obtain ⟨a2, c2, rfl, hn2, hc2, -⟩ := h2.open
  obtain ⟨a3, c3, rfl, hn3, hc3, -⟩ := h3.open
  clear h1 h2 h3
  go_enter Try.func13, Try.ntmps13
  go_wp2_with fail
  obtain ⟨W, hW, A0, hs, E⟩ := one_box w #[.slice a1 p.lo.length c1, .slice a2 p.af.length c2] 27
  rw [← hW.out]
  refine (impl_beginsFit p _ _ _ l _ (H1.out.ext E) (H2.out.ext E) (H3.out.ext E)).mono ?_
  rintro e w1 ⟨rfl, hb1⟩
  have A0 := A0.ext hb1
  have E := ext_trans E hb1
  obtain ⟨rc0, rz0⟩ := (A0).rules; have rl0 := (A0).lt
  cases hf : p.fit l
  · have Hf : Hid (p.beginsOk h l = false) := by simp [Pj.beginsOk, hf]; exact Lib.hid trivial
    clear hf
    go_wp2_with fail
    go_ret
    exact ⟨by rw [Hf.out]; rfl, E⟩
  have HF := Lib.hid hf
  obtain ⟨hok, hln, hlr⟩ := fit_in hf
  have Hok := Lib.hid hok
  have Hlr := Lib.hid hlr
  obtain ⟨n, hn⟩ : ∃ n, Hid (n = p.lo.length) := ⟨_, rfl⟩
  have hn3' : Hid (l.length = n) := by rw [hn.out]; exact hln
  obtain ⟨hl6, haf, hLs, hAs⟩ := ok_upto hok
  have Haf := Lib.hid haf; have HLs := Lib.hid hLs; have HAs := Lib.hid hAs
  clear hf hok hln hlr haf hLs hAs
  go_wp2_with fail
  refine (impl_isHands h _).mono ?_
  rintro e w2 ⟨rfl, rfl⟩
  cases hh : inB h 1 3
  · have Hf : Hid (p.beginsOk h l = false) := by simp [Pj.beginsOk, hh]; exact Lib.hid trivial
    clear hh
    go_wp2_with fail
    go_ret
    exact ⟨by rw [Hf.out]; rfl, E⟩
  have Hh := Lib.hid ((inB_iff _ _ _).1 hh)
  clear hh
  rw [← hn.out] at hl6 hn1 rc0 A0
  rw [hn3'.out] at hn3 ⊢
  rw [← hn.out]
  have hbusy : Hid (∀ t wx, Below w1.heap.size w1 wx → Calls Try.prog 38 #[.agg #[.slice a1 n c1, .slice a2 p.af.length c2], .slice a3 n c3, .int .i64 t] wx fun e w' => e = .returned (.int .i64 (busyTo (lF l) p.L t n)) ∧ Below wx.heap.size wx w') := by
    intro t wx hb
    rw [hn.out]
    have h3 := (H3.out.ext E).ext hb
    rw [hn3'.out, hn.out] at h3
    exact impl_busy p _ _ _ l t wx ((H1.out.ext E).ext hb) ((H2.out.ext E).ext hb) h3 Hok.out (by rw [hn3'.out]; exact hn.out) (fun j hj => by have := Hlr.out j hj; omega)
  have hafter : Hid (∀ i k wx, i < n → k < n → Below w1.heap.size w1 wx → Calls Try.prog 37 #[.agg #[.slice a1 n c1, .slice a2 p.af.length c2], .int .i64 i, .int .i64 k] wx fun e w' => e = .returned (.bool (bit (p.A i) k)) ∧ Below wx.heap.size wx w') := by
    intro i k wx hi hk hb
    have hAi := HAs.out i (by rw [← hn.out]; exact hi)
    have h1 := (H1.out.ext E).ext hb
    rw [← hn.out] at h1
    refine impl_after p (.slice a1 n c1) (.slice a2 p.af.length c2) i k wx (by rw [hn.out]; exact (H1.out.ext E).ext hb) ((H2.out.ext E).ext hb) (by rw [Haf.out, ← hn.out]; exact hi) (by omega) ⟨hAi.1, ?_⟩
    have key : ∀ m : Fin 7, (2 : Int) ^ m.val ≤ 64 := by decide
    have := key ⟨i, by omega⟩
    dsimp only at this
    omega
  clear rc0 rz0 rl0
  obtain ⟨rc0, rz0⟩ := (A0).rules; have rl0 := (A0).lt
  go_wp2_with fail
  clear rc0 rz0 rl0
  go_loopg [21] n (fun m ii wr => ∃ i : Nat, i ≤ n ∧ m = n - i ∧ ii = .int .i64 i ∧ Below w1.heap.size w1 wr ∧ Hid (∀ c, c < i → p.beginOk h l c = true))
  case atStart => exact ⟨0, by omega, by omega, rfl, ext_refl _, fun c hc => by omega⟩
  case round =>
    obtain ⟨i, hi, hgk, rfl, hb, Hall⟩ := hrel
    have Hi := Lib.hid hgk
    clear hgk
    by_cases hli : i < n
    · have hil : i < l.length := by rw [hn3'.out]; exact hli
      have h3x := (H3.out.ext E).ext hb
      rw [hn3'.out] at h3x
      obtain ⟨g3, ha3, _, hg3, _, cx⟩ := h3x.at_ hil
      subst ha3
      clear h3x
      have hx := Hlr.out i hil
      obtain ⟨x, Hx⟩ : ∃ x, Hid (x = lF l i) := ⟨_, rfl⟩
      rw [show l.getD i 0 = x from Hx.out.symm] at cx hx
      clear hil
      have A1 := A0.ext hb
      obtain ⟨rc1, rz1⟩ := (A1).rules; have rl1 := (A1).lt
      go_wp2_with fail
      clear rc1 rz1 rl1 A1 cx
      rename World => wr
      go_loopg [27] i (fun m kk wx => ∃ k : Nat, k ≤ i ∧ m = i - k ∧ kk = .int .i64 k ∧ Below wr.heap.size wr wx ∧ Hid (∀ c, c < k → bit (p.A i) c = true → lF l c + p.L c ≤ x))
      case atStart => exact ⟨0, by omega, by omega, rfl, ext_refl _, fun c hc => by omega⟩
      case round =>
        rename World => wx
        obtain ⟨k, hk, hgk, rfl, hbx, Hin⟩ := hrel
        have Hk := Lib.hid hgk
        clear hgk
        have hbw := ext_trans hb hbx
        have A1 := A0.ext hbw
        obtain ⟨rc1, rz1⟩ := (A1).rules; have rl1 := (A1).lt
        by_cases hlk : k < i
        · have hkl : k < l.length := by rw [hn3'.out]; omega
          have hko : k < p.lo.length := by rw [← hn.out]; omega
          have h3x := (H3.out.ext E).ext hbw
          rw [hn3'.out] at h3x
          obtain ⟨_, ha3, _, _, _, cu⟩ := h3x.at_ hkl
          cases ha3
          have h1x := (H1.out.ext E).ext hbw
          rw [← hn.out] at h1x
          obtain ⟨g1, ha1, _, hg1, _, cy⟩ := h1x.at_ hko
          subst ha1
          obtain ⟨u, Hu⟩ : ∃ u, Hid (u = lF l k) := ⟨_, rfl⟩
          obtain ⟨y, Hy⟩ : ∃ y, Hid (y = p.L k) := ⟨_, rfl⟩
          have hu := Hlr.out k hkl
          have hy := HLs.out k hko
          rw [show l.getD k 0 = u from Hu.out.symm] at cu hu
          rw [show p.lo.getD k 0 = y from Hy.out.symm] at cy
          rw [← Hy.out] at hy
          have hg3w : g3 < wx.heap.size := by have := hbx.size; omega
          clear h3x h1x hkl hko
          have hw : IntKind.i64.wrap (u + y) = u + y := IntWalk.i64_in _ (by omega)
          go_wp2_with fail
          refine wp_region_held_drew (S := (fun w' => w'.cell? ⟨w.heap.size, 0, none⟩ = some (Value.slice (some ⟨g1, 0, none⟩) n c1) ∧ w'.cell? ⟨w.heap.size, 1, none⟩ = some (Value.slice a2 p.af.length c2) ∧ w'.cell? ⟨g3, k, none⟩ = some (Value.int .i64 u) ∧ w'.cell? ⟨g1, k, none⟩ = some (Value.int .i64 y))) (by kernel_rfl) ?_ (fun hHeld => ?_)
          · exact ⟨A1.cell0 rfl, A1.cell0 rfl, cu, cy⟩
          obtain ⟨d, hd⟩ : ∃ d, Hid (d = wx.drew) := ⟨_, rfl⟩
          have Ed : Below wx.heap.size wx d := by rw [hd.out]; exact ext_drew (ext_refl _)
          rw [← hd.out] at hHeld ⊢
          have hbx := ext_trans hbx Ed
          have hbw := ext_trans hbw Ed
          clear rc1 rz1 rl1 A1 cu cy Ed
          try simp only [Act.put, List.setIfInBounds_toArray, List.set_cons_zero, List.set_cons_succ]
          refine wpAnyH_take (i := 0) (v := ?_) rfl (by kernel_rfl) (by kernel_rfl) (by kernel_rfl) (fun _ _ _ h => h) (Or.inl ⟨by rfl, fun w' hS' => ?_⟩) (by assumption) ?_
          rotate_left
          · (try dsimp only at hS'); go_simp; (try rw [if_pos (by omega)]); try with_reducible rfl
          try simp only [Act.put, List.getElem_toArray, List.getElem_cons_zero, List.getElem_cons_succ, List.setIfInBounds_toArray, List.set_cons_zero, List.set_cons_succ]
          refine wpAnyH_take (i := 1) (v := ?_) rfl (by kernel_rfl) (by kernel_rfl) (by kernel_rfl) (fun _ _ _ h => h) (Or.inl ⟨by rfl, fun w' hS' => ?_⟩) (by assumption) ?_
          rotate_left
          · (try dsimp only at hS'); go_simp; (try rw [if_pos (by omega)]); try with_reducible rfl
          try simp only [Act.put, List.getElem_toArray, List.getElem_cons_zero, List.getElem_cons_succ, List.setIfInBounds_toArray, List.set_cons_zero, List.set_cons_succ]
          refine wpAnyH_take (i := 2) (v := ?_) rfl (by kernel_rfl) (by kernel_rfl) (by kernel_rfl) (fun _ _ _ h => h) (Or.inl ⟨by rfl, fun w' hS' => ?_⟩) (by assumption) ?_
          rotate_left
          · (try dsimp only at hS'); go_simp; (try rw [if_pos (by omega)]); try with_reducible rfl
          try simp only [Act.put, List.getElem_toArray, List.getElem_cons_zero, List.getElem_cons_succ, List.setIfInBounds_toArray, List.set_cons_zero, List.set_cons_succ]
          refine wpAnyH_ready (rs := [3]) (by kernel_rfl) (by simp) ?_
          refine AllReadyH.cons rfl (fun K' hK => ?_) AllReadyH.nil
          refine if_yes (by rfl) ?_
          try simp only [Act.put, List.getElem_toArray, List.getElem_cons_zero, List.getElem_cons_succ, List.setIfInBounds_toArray, List.set_cons_zero, List.set_cons_succ]
          go_simp
          refine (hafter.out i k _ hli (by omega) hbw).mono ?_
          rintro e w4 ⟨rfl, hb4⟩
          have hkeep : (fun w' => w'.cell? ⟨w.heap.size, 0, none⟩ = some (Value.slice (some ⟨g1, 0, none⟩) n c1) ∧ w'.cell? ⟨w.heap.size, 1, none⟩ = some (Value.slice a2 p.af.length c2) ∧ w'.cell? ⟨g3, k, none⟩ = some (Value.int .i64 u) ∧ w'.cell? ⟨g1, k, none⟩ = some (Value.int .i64 y)) w4 := by
            have h3x := (H3.out.ext E).ext (ext_trans hbw hb4)
            rw [hn3'.out] at h3x
            have h1x := (H1.out.ext E).ext (ext_trans hbw hb4)
            rw [← hn.out] at h1x
            exact ⟨((A0.ext hbw).ext hb4).cell0 rfl, ((A0.ext hbw).ext hb4).cell0 rfl, by rw [h3x.cellJ (by rw [hn3'.out]; omega), Hu.out]; rfl, by rw [h1x.cellJ (by rw [← hn.out]; omega), Hy.out]; rfl⟩
          have hbx := ext_trans hbx hb4
          clear hb4
          cases hbit : bit (p.A i) k
          · have Hbit := Lib.hid hbit
            clear hbit
            go_wp2_with fail
            refine hK.out _ _ ?_ (fun hHeld => ?_)
            · exact hkeep
            clear hK K'
            try simp only [Act.put, List.setIfInBounds_toArray, List.set_cons_zero, List.set_cons_succ]
            refine wpAnyH_take (i := 4) (v := ?_) rfl (by kernel_rfl) (by kernel_rfl) (by kernel_rfl) (fun _ _ _ h => h) (Or.inl ⟨by rfl, fun w' hS' => ?_⟩) (by assumption) ?_
            rotate_left
            · (try dsimp only at hS'); go_simp; (try rw [if_pos (by omega)]); try with_reducible rfl
            try simp only [Act.put, List.getElem_toArray, List.getElem_cons_zero, List.getElem_cons_succ, List.setIfInBounds_toArray, List.set_cons_zero, List.set_cons_succ]
            refine wpAnyH_take (i := 5) (v := undef) rfl (by kernel_rfl) (by kernel_rfl) (by kernel_rfl) (fun _ _ _ h => h) (Or.inr ⟨by rfl, rfl⟩) (by assumption) ?_
            try simp only [Act.put, List.getElem_toArray, List.getElem_cons_zero, List.getElem_cons_succ, List.setIfInBounds_toArray, List.set_cons_zero, List.set_cons_succ]
            refine wpAnyH_take (i := 6) (v := undef) rfl (by kernel_rfl) (by kernel_rfl) (by kernel_rfl) (fun _ _ _ h => h) (Or.inr ⟨by rfl, rfl⟩) (by assumption) ?_
            try simp only [Act.put, List.getElem_toArray, List.getElem_cons_zero, List.getElem_cons_succ, List.setIfInBounds_toArray, List.set_cons_zero, List.set_cons_succ]
            refine wpAnyH_take (i := 7) (v := undef) rfl (by kernel_rfl) (by kernel_rfl) (by kernel_rfl) (fun _ _ _ h => h) (Or.inr ⟨by rfl, rfl⟩) (by assumption) ?_
            try simp only [Act.put, List.getElem_toArray, List.getElem_cons_zero, List.getElem_cons_succ, List.setIfInBounds_toArray, List.set_cons_zero, List.set_cons_succ]
            refine wpAnyH_take (i := 8) (v := undef) rfl (by kernel_rfl) (by kernel_rfl) (by kernel_rfl) (fun _ _ _ h => h) (Or.inr ⟨by rfl, rfl⟩) (by assumption) ?_
            try simp only [Act.put, List.getElem_toArray, List.getElem_cons_zero, List.getElem_cons_succ, List.setIfInBounds_toArray, List.set_cons_zero, List.set_cons_succ]
            refine wpAnyH_take (i := 9) (v := undef) rfl (by kernel_rfl) (by kernel_rfl) (by kernel_rfl) (fun _ _ _ h => h) (Or.inr ⟨by rfl, rfl⟩) (by assumption) ?_
            try simp only [Act.put, List.getElem_toArray, List.getElem_cons_zero, List.getElem_cons_succ, List.setIfInBounds_toArray, List.set_cons_zero, List.set_cons_succ]
            refine wpAnyH_take (i := 10) (v := undef) rfl (by kernel_rfl) (by kernel_rfl) (by kernel_rfl) (fun _ _ _ h => h) (Or.inr ⟨by rfl, rfl⟩) (by assumption) ?_
            try simp only [Act.put, List.getElem_toArray, List.getElem_cons_zero, List.getElem_cons_succ, List.setIfInBounds_toArray, List.set_cons_zero, List.set_cons_succ]
            refine wpAnyH_take (i := 11) (v := undef) rfl (by kernel_rfl) (by kernel_rfl) (by kernel_rfl) (fun _ _ _ h => h) (Or.inr ⟨by rfl, rfl⟩) (by assumption) ?_
            try simp only [Act.put, List.getElem_toArray, List.getElem_cons_zero, List.getElem_cons_succ, List.setIfInBounds_toArray, List.set_cons_zero, List.set_cons_succ]
            refine wpAnyH_take (i := 12) (v := undef) rfl (by kernel_rfl) (by kernel_rfl) (by kernel_rfl) (fun _ _ _ h => h) (Or.inr ⟨by rfl, rfl⟩) (by assumption) ?_
            try simp only [Act.put, List.getElem_toArray, List.getElem_cons_zero, List.getElem_cons_succ, List.setIfInBounds_toArray, List.set_cons_zero, List.set_cons_succ]
            refine wpAnyH_take (i := 13) (v := undef) rfl (by kernel_rfl) (by kernel_rfl) (by kernel_rfl) (fun _ _ _ h => h) (Or.inr ⟨by rfl, rfl⟩) (by assumption) ?_
            try simp only [Act.put, List.getElem_toArray, List.getElem_cons_zero, List.getElem_cons_succ, List.setIfInBounds_toArray, List.set_cons_zero, List.set_cons_succ]
            refine wpAnyH_take (i := 14) (v := undef) rfl (by kernel_rfl) (by kernel_rfl) (by kernel_rfl) (fun _ _ _ h => h) (Or.inr ⟨by rfl, rfl⟩) (by assumption) ?_
            try simp only [Act.put, List.getElem_toArray, List.getElem_cons_zero, List.getElem_cons_succ, List.setIfInBounds_toArray, List.set_cons_zero, List.set_cons_succ]
            refine wpAnyH_take (i := 15) (v := undef) rfl (by kernel_rfl) (by kernel_rfl) (by kernel_rfl) (fun _ _ _ h => h) (Or.inr ⟨by rfl, rfl⟩) (by assumption) ?_
            try simp only [Act.put, List.getElem_toArray, List.getElem_cons_zero, List.getElem_cons_succ, List.setIfInBounds_toArray, List.set_cons_zero, List.set_cons_succ]
            refine wpAnyH_take (i := 16) (v := undef) rfl (by kernel_rfl) (by kernel_rfl) (by kernel_rfl) (fun _ _ _ h => h) (Or.inr ⟨by rfl, rfl⟩) (by assumption) ?_
            try simp only [Act.put, List.getElem_toArray, List.getElem_cons_zero, List.getElem_cons_succ, List.setIfInBounds_toArray, List.set_cons_zero, List.set_cons_succ]
            refine wpAnyH_take (i := 17) (v := ?_) rfl (by kernel_rfl) (by kernel_rfl) (by kernel_rfl) (fun _ _ _ h => h) (Or.inl ⟨by rfl, fun w' hS' => ?_⟩) (by assumption) ?_
            rotate_left
            · (try dsimp only at hS'); go_simp; (try rw [if_pos (by omega)]); try with_reducible rfl
            try simp only [Act.put, List.getElem_toArray, List.getElem_cons_zero, List.getElem_cons_succ, List.setIfInBounds_toArray, List.set_cons_zero, List.set_cons_succ]
            refine wpAnyH_done (by kernel_rfl) ?_ _
            try simp only [Act.put, List.setIfInBounds_toArray, List.set_cons_zero, List.set_cons_succ]
            go_wp2_with fail
            go_roundg (i - (k+1))
            case rel =>
              refine ⟨k+1, by omega, rfl, by go_num, hbx, Lib.hid fun c hc hbc => ?_⟩
              by_cases hck : c = k
              · subst hck; rw [Hbit.out] at hbc; cases hbc
              · exact Hin.out c (by omega) hbc
            case measure => have := Hk.out; omega
          · have Hbit := Lib.hid hbit
            clear hbit
            go_wp2_with fail
            refine hK.out _ _ ?_ (fun hHeld => ?_)
            · exact hkeep
            clear hK K'
            try simp only [Act.put, List.setIfInBounds_toArray, List.set_cons_zero, List.set_cons_succ]
            by_cases hxu : x < u + y
            · refine wpAnyH_take (i := 4) (v := ?_) rfl (by kernel_rfl) (by kernel_rfl) (by kernel_rfl) (fun _ _ _ h => h) (Or.inl ⟨by rfl, fun w' hS' => ?_⟩) (by assumption) ?_
              rotate_left
              · (try dsimp only at hS'); go_simp; (try rw [if_pos (by omega)]); try with_reducible rfl
              try simp only [Act.put, List.getElem_toArray, List.getElem_cons_zero, List.getElem_cons_succ, List.setIfInBounds_toArray, List.set_cons_zero, List.set_cons_succ]
              refine wpAnyH_take (i := 5) (v := ?_) rfl (by kernel_rfl) (by kernel_rfl) (by kernel_rfl) (fun _ _ _ h => h) (Or.inl ⟨by rfl, fun w' hS' => ?_⟩) (by assumption) ?_
              rotate_left
              · (try dsimp only at hS'); go_simp; (try rw [if_pos (by omega)]); try with_reducible rfl
              try simp only [Act.put, List.getElem_toArray, List.getElem_cons_zero, List.getElem_cons_succ, List.setIfInBounds_toArray, List.set_cons_zero, List.set_cons_succ]
              refine wpAnyH_take (i := 6) (v := ?_) rfl (by kernel_rfl) (by kernel_rfl) (by kernel_rfl) (fun _ _ _ h => h) (Or.inl ⟨by rfl, fun w' hS' => ?_⟩) (by assumption) ?_
              rotate_left
              · (try dsimp only at hS'); go_simp; (try rw [if_pos (by omega)]); try with_reducible rfl
              try simp only [Act.put, List.getElem_toArray, List.getElem_cons_zero, List.getElem_cons_succ, List.setIfInBounds_toArray, List.set_cons_zero, List.set_cons_succ]
              refine wpAnyH_take (i := 7) (v := ?_) rfl (by kernel_rfl) (by kernel_rfl) (by kernel_rfl) (fun _ _ _ h => h) (Or.inl ⟨by rfl, fun w' hS' => ?_⟩) (by assumption) ?_
              rotate_left
              · (try dsimp only at hS'); go_simp; (try rw [if_pos (by omega)]); try with_reducible rfl
              try simp only [Act.put, List.getElem_toArray, List.getElem_cons_zero, List.getElem_cons_succ, List.setIfInBounds_toArray, List.set_cons_zero, List.set_cons_succ]
              refine wpAnyH_take (i := 8) (v := ?_) rfl (by kernel_rfl) (by kernel_rfl) (by kernel_rfl) (fun _ _ _ h => h) (Or.inl ⟨by rfl, fun w' hS' => ?_⟩) (by assumption) ?_
              rotate_left
              · (try dsimp only at hS'); go_simp; (try rw [if_pos (by omega)]); try with_reducible rfl
              try simp only [Act.put, List.getElem_toArray, List.getElem_cons_zero, List.getElem_cons_succ, List.setIfInBounds_toArray, List.set_cons_zero, List.set_cons_succ]
              refine wpAnyH_take (i := 9) (v := ?_) rfl (by kernel_rfl) (by kernel_rfl) (by kernel_rfl) (fun _ _ _ h => h) (Or.inl ⟨by rfl, fun w' hS' => ?_⟩) (by assumption) ?_
              rotate_left
              · (try dsimp only at hS'); go_simp; (try rw [if_pos (by omega)]); try with_reducible rfl
              try simp only [Act.put, List.getElem_toArray, List.getElem_cons_zero, List.getElem_cons_succ, List.setIfInBounds_toArray, List.set_cons_zero, List.set_cons_succ]
              refine wpAnyH_take (i := 10) (v := ?_) rfl (by kernel_rfl) (by kernel_rfl) (by kernel_rfl) (fun _ _ _ h => h) (Or.inl ⟨by rfl, fun w' hS' => ?_⟩) (by assumption) ?_
              rotate_left
              · (try dsimp only at hS'); go_simp; (try rw [if_pos (by omega)]); try with_reducible rfl
              try simp only [Act.put, List.getElem_toArray, List.getElem_cons_zero, List.getElem_cons_succ, List.setIfInBounds_toArray, List.set_cons_zero, List.set_cons_succ]
              refine wpAnyH_take (i := 11) (v := ?_) rfl (by kernel_rfl) (by kernel_rfl) (by kernel_rfl) (fun _ _ _ h => h) (Or.inl ⟨by rfl, fun w' hS' => ?_⟩) (by assumption) ?_
              rotate_left
              · (try dsimp only at hS'); go_simp; (try rw [if_pos (by omega)]); try with_reducible rfl
              try simp only [Act.put, List.getElem_toArray, List.getElem_cons_zero, List.getElem_cons_succ, List.setIfInBounds_toArray, List.set_cons_zero, List.set_cons_succ]
              refine wpAnyH_take (i := 12) (v := ?_) rfl (by kernel_rfl) (by kernel_rfl) (by kernel_rfl) (fun _ _ _ h => h) (Or.inl ⟨by rfl, fun w' hS' => ?_⟩) (by assumption) ?_
              rotate_left
              · (try dsimp only at hS'); go_simp; (try rw [if_pos (by omega)]); try with_reducible rfl
              try simp only [Act.put, List.getElem_toArray, List.getElem_cons_zero, List.getElem_cons_succ, List.setIfInBounds_toArray, List.set_cons_zero, List.set_cons_succ]
              refine wpAnyH_take (i := 13) (v := ?_) rfl (by kernel_rfl) (by kernel_rfl) (by kernel_rfl) (fun _ _ _ h => h) (Or.inl ⟨by rfl, fun w' hS' => ?_⟩) (by assumption) ?_
              rotate_left
              · (try dsimp only at hS'); go_simp; (try rw [if_pos (by omega)]); try with_reducible rfl
              try simp only [Act.put, List.getElem_toArray, List.getElem_cons_zero, List.getElem_cons_succ, List.setIfInBounds_toArray, List.set_cons_zero, List.set_cons_succ]
              refine wpAnyH_take (i := 14) (v := ?_) rfl (by kernel_rfl) (by kernel_rfl) (by kernel_rfl) (fun _ _ _ h => h) (Or.inl ⟨by rfl, fun w' hS' => ?_⟩) (by assumption) ?_
              rotate_left
              · (try dsimp only at hS'); go_simp; (try rw [if_pos (by omega)]); try with_reducible rfl
              try simp only [Act.put, List.getElem_toArray, List.getElem_cons_zero, List.getElem_cons_succ, List.setIfInBounds_toArray, List.set_cons_zero, List.set_cons_succ]
              refine wpAnyH_take (i := 15) (v := ?_) rfl (by kernel_rfl) (by kernel_rfl) (by kernel_rfl) (fun _ _ _ h => h) (Or.inl ⟨by rfl, fun w' hS' => ?_⟩) (by assumption) ?_
              rotate_left
              · (try dsimp only at hS'); go_simp; (try rw [if_pos (by omega)]); try with_reducible rfl
              try simp only [Act.put, List.getElem_toArray, List.getElem_cons_zero, List.getElem_cons_succ, List.setIfInBounds_toArray, List.set_cons_zero, List.set_cons_succ]
              refine wpAnyH_take (i := 16) (v := ?_) rfl (by kernel_rfl) (by kernel_rfl) (by kernel_rfl) (fun _ _ _ h => h) (Or.inl ⟨by rfl, fun w' hS' => ?_⟩) (by assumption) ?_
              rotate_left
              · (try dsimp only at hS'); go_simp; (try rw [if_pos (by omega)]); try with_reducible rfl
              try simp only [Act.put, List.getElem_toArray, List.getElem_cons_zero, List.getElem_cons_succ, List.setIfInBounds_toArray, List.set_cons_zero, List.set_cons_succ]
              refine wpAnyH_take (i := 17) (v := ?_) rfl (by kernel_rfl) (by kernel_rfl) (by kernel_rfl) (fun _ _ _ h => h) (Or.inl ⟨by rfl, fun w' hS' => ?_⟩) (by assumption) ?_
              rotate_left
              · (try dsimp only at hS'); go_simp; (try rw [if_pos (by omega)]); try with_reducible rfl
              try simp only [Act.put, List.getElem_toArray, List.getElem_cons_zero, List.getElem_cons_succ, List.setIfInBounds_toArray, List.set_cons_zero, List.set_cons_succ]
              refine wpAnyH_done (by kernel_rfl) ?_ _
              try simp only [Act.put, List.setIfInBounds_toArray, List.set_cons_zero, List.set_cons_succ]
              try rw [hw]
              go_wp2_with fail
              go_ret
              refine ⟨?_, ext_trans E (ext_trans hb hbx)⟩
              rw [begins_not (by rw [← hn.out]; exact hli) (after_not hlk Hbit.out (by rw [← Hu.out, ← Hx.out, ← Hy.out]; exact hxu))]
              rfl
            · refine wpAnyH_take (i := 4) (v := ?_) rfl (by kernel_rfl) (by kernel_rfl) (by kernel_rfl) (fun _ _ _ h => h) (Or.inl ⟨by rfl, fun w' hS' => ?_⟩) (by assumption) ?_
              rotate_left
              · (try dsimp only at hS'); go_simp; (try rw [if_pos (by omega)]); try with_reducible rfl
              try simp only [Act.put, List.getElem_toArray, List.getElem_cons_zero, List.getElem_cons_succ, List.setIfInBounds_toArray, List.set_cons_zero, List.set_cons_succ]
              refine wpAnyH_take (i := 5) (v := ?_) rfl (by kernel_rfl) (by kernel_rfl) (by kernel_rfl) (fun _ _ _ h => h) (Or.inl ⟨by rfl, fun w' hS' => ?_⟩) (by assumption) ?_
              rotate_left
              · (try dsimp only at hS'); go_simp; (try rw [if_pos (by omega)]); try with_reducible rfl
              try simp only [Act.put, List.getElem_toArray, List.getElem_cons_zero, List.getElem_cons_succ, List.setIfInBounds_toArray, List.set_cons_zero, List.set_cons_succ]
              refine wpAnyH_take (i := 6) (v := ?_) rfl (by kernel_rfl) (by kernel_rfl) (by kernel_rfl) (fun _ _ _ h => h) (Or.inl ⟨by rfl, fun w' hS' => ?_⟩) (by assumption) ?_
              rotate_left
              · (try dsimp only at hS'); go_simp; (try rw [if_pos (by omega)]); try with_reducible rfl
              try simp only [Act.put, List.getElem_toArray, List.getElem_cons_zero, List.getElem_cons_succ, List.setIfInBounds_toArray, List.set_cons_zero, List.set_cons_succ]
              refine wpAnyH_take (i := 7) (v := ?_) rfl (by kernel_rfl) (by kernel_rfl) (by kernel_rfl) (fun _ _ _ h => h) (Or.inl ⟨by rfl, fun w' hS' => ?_⟩) (by assumption) ?_
              rotate_left
              · (try dsimp only at hS'); go_simp; (try rw [if_pos (by omega)]); try with_reducible rfl
              try simp only [Act.put, List.getElem_toArray, List.getElem_cons_zero, List.getElem_cons_succ, List.setIfInBounds_toArray, List.set_cons_zero, List.set_cons_succ]
              refine wpAnyH_take (i := 8) (v := ?_) rfl (by kernel_rfl) (by kernel_rfl) (by kernel_rfl) (fun _ _ _ h => h) (Or.inl ⟨by rfl, fun w' hS' => ?_⟩) (by assumption) ?_
              rotate_left
              · (try dsimp only at hS'); go_simp; (try rw [if_pos (by omega)]); try with_reducible rfl
              try simp only [Act.put, List.getElem_toArray, List.getElem_cons_zero, List.getElem_cons_succ, List.setIfInBounds_toArray, List.set_cons_zero, List.set_cons_succ]
              refine wpAnyH_take (i := 9) (v := ?_) rfl (by kernel_rfl) (by kernel_rfl) (by kernel_rfl) (fun _ _ _ h => h) (Or.inl ⟨by rfl, fun w' hS' => ?_⟩) (by assumption) ?_
              rotate_left
              · (try dsimp only at hS'); go_simp; (try rw [if_pos (by omega)]); try with_reducible rfl
              try simp only [Act.put, List.getElem_toArray, List.getElem_cons_zero, List.getElem_cons_succ, List.setIfInBounds_toArray, List.set_cons_zero, List.set_cons_succ]
              refine wpAnyH_take (i := 10) (v := ?_) rfl (by kernel_rfl) (by kernel_rfl) (by kernel_rfl) (fun _ _ _ h => h) (Or.inl ⟨by rfl, fun w' hS' => ?_⟩) (by assumption) ?_
              rotate_left
              · (try dsimp only at hS'); go_simp; (try rw [if_pos (by omega)]); try with_reducible rfl
              try simp only [Act.put, List.getElem_toArray, List.getElem_cons_zero, List.getElem_cons_succ, List.setIfInBounds_toArray, List.set_cons_zero, List.set_cons_succ]
              refine wpAnyH_take (i := 11) (v := ?_) rfl (by kernel_rfl) (by kernel_rfl) (by kernel_rfl) (fun _ _ _ h => h) (Or.inl ⟨by rfl, fun w' hS' => ?_⟩) (by assumption) ?_
              rotate_left
              · (try dsimp only at hS'); go_simp; (try rw [if_pos (by omega)]); try with_reducible rfl
              try simp only [Act.put, List.getElem_toArray, List.getElem_cons_zero, List.getElem_cons_succ, List.setIfInBounds_toArray, List.set_cons_zero, List.set_cons_succ]
              refine wpAnyH_take (i := 12) (v := ?_) rfl (by kernel_rfl) (by kernel_rfl) (by kernel_rfl) (fun _ _ _ h => h) (Or.inl ⟨by rfl, fun w' hS' => ?_⟩) (by assumption) ?_
              rotate_left
              · (try dsimp only at hS'); go_simp; (try rw [if_pos (by omega)]); try with_reducible rfl
              try simp only [Act.put, List.getElem_toArray, List.getElem_cons_zero, List.getElem_cons_succ, List.setIfInBounds_toArray, List.set_cons_zero, List.set_cons_succ]
              refine wpAnyH_take (i := 13) (v := ?_) rfl (by kernel_rfl) (by kernel_rfl) (by kernel_rfl) (fun _ _ _ h => h) (Or.inl ⟨by rfl, fun w' hS' => ?_⟩) (by assumption) ?_
              rotate_left
              · (try dsimp only at hS'); go_simp; (try rw [if_pos (by omega)]); try with_reducible rfl
              try simp only [Act.put, List.getElem_toArray, List.getElem_cons_zero, List.getElem_cons_succ, List.setIfInBounds_toArray, List.set_cons_zero, List.set_cons_succ]
              refine wpAnyH_take (i := 14) (v := ?_) rfl (by kernel_rfl) (by kernel_rfl) (by kernel_rfl) (fun _ _ _ h => h) (Or.inl ⟨by rfl, fun w' hS' => ?_⟩) (by assumption) ?_
              rotate_left
              · (try dsimp only at hS'); go_simp; (try rw [if_pos (by omega)]); try with_reducible rfl
              try simp only [Act.put, List.getElem_toArray, List.getElem_cons_zero, List.getElem_cons_succ, List.setIfInBounds_toArray, List.set_cons_zero, List.set_cons_succ]
              refine wpAnyH_take (i := 15) (v := ?_) rfl (by kernel_rfl) (by kernel_rfl) (by kernel_rfl) (fun _ _ _ h => h) (Or.inl ⟨by rfl, fun w' hS' => ?_⟩) (by assumption) ?_
              rotate_left
              · (try dsimp only at hS'); go_simp; (try rw [if_pos (by omega)]); try with_reducible rfl
              try simp only [Act.put, List.getElem_toArray, List.getElem_cons_zero, List.getElem_cons_succ, List.setIfInBounds_toArray, List.set_cons_zero, List.set_cons_succ]
              refine wpAnyH_take (i := 16) (v := ?_) rfl (by kernel_rfl) (by kernel_rfl) (by kernel_rfl) (fun _ _ _ h => h) (Or.inl ⟨by rfl, fun w' hS' => ?_⟩) (by assumption) ?_
              rotate_left
              · (try dsimp only at hS'); go_simp; (try rw [if_pos (by omega)]); try with_reducible rfl
              try simp only [Act.put, List.getElem_toArray, List.getElem_cons_zero, List.getElem_cons_succ, List.setIfInBounds_toArray, List.set_cons_zero, List.set_cons_succ]
              refine wpAnyH_take (i := 17) (v := ?_) rfl (by kernel_rfl) (by kernel_rfl) (by kernel_rfl) (fun _ _ _ h => h) (Or.inl ⟨by rfl, fun w' hS' => ?_⟩) (by assumption) ?_
              rotate_left
              · (try dsimp only at hS'); go_simp; (try rw [if_pos (by omega)]); try with_reducible rfl
              try simp only [Act.put, List.getElem_toArray, List.getElem_cons_zero, List.getElem_cons_succ, List.setIfInBounds_toArray, List.set_cons_zero, List.set_cons_succ]
              refine wpAnyH_done (by kernel_rfl) ?_ _
              try simp only [Act.put, List.setIfInBounds_toArray, List.set_cons_zero, List.set_cons_succ]
              try rw [hw]
              go_wp2_with fail
              go_roundg (i - (k+1))
              case rel =>
                refine ⟨k+1, by omega, rfl, by go_num, hbx, Lib.hid fun c hc hbc => ?_⟩
                by_cases hck : c = k
                · subst hck; rw [← Hu.out, ← Hy.out]; omega
                · exact Hin.out c (by omega) hbc
              case measure => have := Hk.out; omega
        · have hki : i = k := by omega
          subst hki
          have haok : Hid (p.afterOk l i = true) := by refine Lib.hid (after_iff.2 fun c hc hbc => ?_); rw [← Hx.out]; exact Hin.out c hc hbc
          go_wp2_with fail
          refine (hbusy.out x _ hbw).mono ?_
          rintro e w5 ⟨rfl, hb5⟩
          have hbz := ext_trans hbw hb5
          have hok : Hid (p.beginOk h l i = decide (busyTo (lF l) p.L x n ≤ h)) := by rw [Pj.beginOk, haok.out, Bool.true_and, ← Hx.out, ← hn.out]; exact Lib.hid rfl
          obtain ⟨z, Hz⟩ : ∃ z, Hid (z = busyTo (lF l) p.L x n) := ⟨_, rfl⟩
          rw [← Hz.out] at hok ⊢
          clear rc1 rz1 rl1 A1
          by_cases hzh : z ≤ h
          · go_wp2_with fail
            go_roundg (n - (i+1))
            case rel =>
              refine ⟨i+1, by omega, rfl, by go_num, hbz, Lib.hid fun c hc => ?_⟩
              by_cases hci : c = i
              · subst hci; rw [hok.out]; exact decide_eq_true hzh
              · exact Hall.out c (by omega)
            case measure => have := Hi.out; omega
          · go_wp2_with fail
            go_ret
            refine ⟨?_, ext_trans E hbz⟩
            rw [begins_not (by rw [← hn.out]; exact hli) (by rw [hok.out]; exact decide_eq_false (by omega))]
            rfl
    · have hin : n = i := by omega
      subst hin
      go_wp2_with fail
      go_ret
      refine ⟨?_, ext_trans E hb⟩
      rw [begins_iff.2 ⟨HF.out, Hh.out, fun c hc => Hall.out c (by rw [hn.out]; exact hc)⟩]
      rfl
def Pj.idleOf (p : Pj) (h : Int) (l : List Int) : Int := if p.beginsOk h l then h * endUp p.L (lF l) p.lo.length - sumUp p.L p.lo.length else -1
theorem mul_small {h x : Int} (h1 : 1 ≤ h) (h2 : h ≤ 3) (h3 : 0 ≤ x) (h4 : x ≤ 10000) : 0 ≤ h * x ∧ h * x ≤ 30000 := by
  have : h = 1 ∨ h = 2 ∨ h = 3 := by omega
  rcases this with rfl | rfl | rfl <;> omega
theorem sum_bd {L : Nat → Int} : ∀ n, (∀ j, j < n → 1 ≤ L j ∧ L j ≤ 20) → 0 ≤ sumUp L n ∧ sumUp L n ≤ 20 * n
  | 0, _ => by simp [sumUp]
  | n+1, h => by have := sum_bd n fun j hj => h j (by omega); have := h n (by omega); show 0 ≤ sumUp L n + L n ∧ sumUp L n + L n ≤ _; omega
theorem end_bd {L e : Nat → Int} : ∀ n, (∀ j, j < n → e j + L j ≤ 10000) → 0 ≤ endUp L e n ∧ endUp L e n ≤ 10000
  | 0, _ => ⟨Int.le_refl _, by show (0 : Int) ≤ _; decide⟩
  | n+1, h => by have := end_bd n fun j hj => h j (by omega); have := h n (by omega); unfold endUp; omega
set_option maxRecDepth 100000 in
set_option maxHeartbeats 4000000 in
theorem impl_IdleOf (p : Pj) (v1 v2 v3 : Value) (h : Int) (l : List Int) (w : World) (h1 : Ints w 0 v1 p.lo) (h2 : Ints w 0 v2 p.af) (h3 : Ints w 0 v3 l) :
    Calls Try.prog 17 #[.agg #[v1, v2], .int .i64 h, v3] w fun e w' => e = .returned (.int .i64 (p.idleOf h l)) ∧ Below w.heap.size w w' := by
  have H1 := Lib.hid h1; have H2 := Lib.hid h2; have H3 := Lib.hid h3
  obtain ⟨a1, c1, rfl, hn1, hc1, -⟩ := h1.open
  obtain ⟨a2, c2, rfl, hn2, hc2, -⟩ := h2.open
  obtain ⟨a3, c3, rfl, hn3, hc3, -⟩ := h3.open
  clear h1 h2 h3
  go_enter Try.func17, Try.ntmps17
  go_wp2_with fail
  obtain ⟨W, hW, A0, hs, E⟩ := one_box w #[.slice a1 p.lo.length c1, .slice a2 p.af.length c2] 27
  rw [← hW.out]
  refine (impl_BeginsOk p _ _ _ h l _ (H1.out.ext E) (H2.out.ext E) (H3.out.ext E)).mono ?_
  rintro e w1 ⟨rfl, hb1⟩
  have A0 := A0.ext hb1
  have E := ext_trans E hb1
  obtain ⟨rc0, rz0⟩ := (A0).rules; have rl0 := (A0).lt
  cases hf : p.beginsOk h l
  · have Hf : Hid (p.idleOf h l = -1) := if_neg (by simp [hf])
    clear hf
    go_wp2_with fail
    go_ret
    exact ⟨by rw [Hf.out]; rfl, E⟩
  have Hf : Hid (p.idleOf h l = h * endUp p.L (lF l) p.lo.length - sumUp p.L p.lo.length) := if_pos hf
  obtain ⟨hfit, hh, -⟩ := begins_iff.1 hf
  obtain ⟨hok, hln, hlr⟩ := fit_in hfit
  obtain ⟨hl6, haf, hLs, hAs⟩ := ok_upto hok
  have HLs := Lib.hid hLs
  have hen := end_bd (L := p.L) (e := lF l) p.lo.length fun j hj => by have := hLs j hj; have := hlr j (by omega); show l.getD j 0 + _ ≤ _; omega
  have Hok := Lib.hid hok; have Hln := Lib.hid hln; have Hlr := Lib.hid hlr
  clear hf hfit hok hln hlr haf hLs hAs
  go_wp2_with fail
  refine (impl_end p _ _ _ l _ (H1.out.ext E) (H2.out.ext E) (H3.out.ext E) Hok.out Hln.out (fun j hj => by have := Hlr.out j hj; omega)).mono ?_
  rintro e w2 ⟨rfl, hb2⟩
  have A0 := A0.ext hb2
  have E := ext_trans E hb2
  clear rc0 rz0 rl0 hb2
  obtain ⟨rc0, rz0⟩ := (A0).rules; have rl0 := (A0).lt
  rw [show endUp p.L (fun j => l.getD j 0) p.lo.length = endUp p.L (lF l) p.lo.length from rfl]
  obtain ⟨x, Hx⟩ : ∃ x, Hid (x = endUp p.L (lF l) p.lo.length) := ⟨_, rfl⟩
  rw [← Hx.out] at hen Hf ⊢
  have hm := mul_small hh.1 hh.2 hen.1 hen.2
  have hmw : IntKind.i64.wrap (h * x) = h * x := IntWalk.i64_in _ (by omega)
  have hmw2 : wrap64 (h * x) = h * x := IntWalk.wrap64_in _ (by omega)
  go_wp2_with fail
  try rw [hmw2]
  try rw [hmw]
  obtain ⟨hx, Hhx⟩ : ∃ z, Hid (z = h * x) := ⟨_, rfl⟩
  rw [← Hhx.out] at hm Hf ⊢
  clear hmw hmw2
  go_loopg [7, 23] p.lo.length (fun m s kk wr => ∃ k : Nat, k ≤ p.lo.length ∧ m = p.lo.length - k ∧ kk = .int .i64 k ∧ s = .int .i64 (hx - sumUp p.L k) ∧ wr = w2)
  case atStart => exact ⟨0, by omega, by omega, rfl, by simp [sumUp], rfl⟩
  case round =>
    obtain ⟨k, hk, hgk, rfl, rfl, hwe⟩ := hrel
    subst hwe
    have Hk := Lib.hid hgk
    clear hgk
    have hsm := sum_bd (L := p.L) k (fun j hj => HLs.out j (by omega))
    by_cases hlk : k < p.lo.length
    · obtain ⟨g1, ha1, _, hg1, _, cy⟩ := (H1.out.ext E).at_ hlk
      subst ha1
      have hy := HLs.out k hlk
      have hnext : Hid (hx - sumUp p.L (k+1) = hx - sumUp p.L k - p.L k) := by show Hid (hx - (sumUp p.L k + p.L k) = _); exact Lib.hid (by omega)
      obtain ⟨y, Hy⟩ : ∃ y, Hid (y = p.L k) := ⟨_, rfl⟩
      obtain ⟨s, Hs⟩ : ∃ y, Hid (y = sumUp p.L k) := ⟨_, rfl⟩
      rw [show p.lo.getD k 0 = y from Hy.out.symm] at cy
      rw [← Hy.out] at hy hnext
      rw [← Hs.out] at hsm hnext ⊢
      go_wp2_with fail
      go_roundg (p.lo.length - (k+1))
      case rel => exact ⟨k+1, by omega, rfl, by go_num, by rw [hnext.out], rfl⟩
      case measure => have := Hk.out; omega
    · have hkn : k = p.lo.length := by omega
      subst hkn
      go_wp2_with fail
      go_ret
      exact ⟨by rw [Hf.out]; rfl, E⟩
end Go.Proofs.Ytdfcjhcnojgkiaa
