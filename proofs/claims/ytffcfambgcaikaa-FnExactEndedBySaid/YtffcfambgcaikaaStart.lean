/- The walk of impl.start: the table of some bounds, made whole in new memory. Conditions: at most 6 points, and each bound is between two of them, its number small. -/
import Derived.Test.YtffcfambgcaikaaTabPlan
import Derived.Test.YtffcfambgcaikaaTail
import Derived.Deep.Cut
namespace Go.Proofs.Ytffcfambgcaikaa
open Go.RowKit
set_option linter.unusedVariables false
set_option linter.unusedSimpArgs false
def RetTab (w : World) (n : Nat) (T : Tbl) : Ending → World → Prop := fun e w' => ∃ O b, e = .returned (.slice (some ⟨O, 0, none⟩) n n) ∧ w.heap.size ≤ O ∧ TabP w' O n n b T ∧ Below w.heap.size w w'
theorem nils_made (n : Nat) : (madeCells #[Value.slice none 0 0] (n * 1)).toList = List.replicate n (Value.slice none 0 0) := by
  apply List.ext_getElem?
  intro i
  by_cases hi : i < n
  · have : i % 1 = 0 := Nat.mod_one i
    simp [madeCells, hi, this, List.getElem?_replicate]
  · simp [madeCells, hi, List.getElem?_replicate]
theorem zeros_made (n : Nat) : (madeCells #[Value.int .i64 0] (n * 1)).toList = (rowOf n fun _ => 0).map (Value.int .i64) := by
  apply List.ext_getElem?
  intro i
  by_cases hi : i < n
  · have : i % 1 = 0 := Nat.mod_one i
    simp [madeCells, rowOf, hi, this]
  · simp [madeCells, rowOf, hi]
theorem TabP.zero {w : World} {O n : Nat} {b : Nat → Nat} {T : Tbl} (h : w.ownsRow O 41 1 (.slice (some ⟨O, 0, none⟩) n n) n (madeCells #[Value.slice none 0 0] (n * 1)).toList) : TabP w O n 0 b T := by
  refine ⟨?_, fun i hi => by omega, fun i hi => by omega, fun i j hi => by omega, by omega⟩
  rw [nils_made] at h
  rw [show headsTo b n 0 = List.replicate n (Value.slice none 0 0) from ?_]
  · exact h
  · apply List.ext_getElem?
    intro i
    by_cases hi : i < n
    · rw [headsTo_at _ _ _ _ hi, if_neg (Nat.not_lt_zero _)]; simp [hi]
    · rw [List.getElem?_eq_none (by rw [headsTo_length]; omega), List.getElem?_eq_none (by simp; omega)]
set_option maxRecDepth 100000 in
set_option maxHeartbeats 8000000 in
theorem impl_start (n : Nat) (v : Value) (bs : List Bd) (w : World) (hv : Bds w 0 v bs) (hn : n ≤ 6) (hin : BdsIn n (-2000) 2000 bs) (hlen : bs.length ≤ 40) :
    Calls Try.prog 85 #[.int .i64 n, v] w (RetTab w n (tab0 bs)) := by
  have V := Lib.hid hv
  have Hin := Lib.hid hin
  obtain ⟨av, cv, rfl, hcv, hcv2, -⟩ := hv.open
  clear hv hin
  obtain ⟨i0, hi, hz0, hz1, hz2⟩ := info_parts info_ints
  obtain ⟨i1, hi', hz0', hz1', hz2'⟩ := info_parts info_int
  have Hi := Lib.hid hi; have Hz0 := Lib.hid hz0; have Hz1 := Lib.hid hz1; have Hz2 := Lib.hid hz2
  have Hi' := Lib.hid hi'; have Hz0' := Lib.hid hz0'; have Hz1' := Lib.hid hz1'; have Hz2' := Lib.hid hz2'
  clear hi hz0 hz1 hz2 hi' hz0' hz1' hz2'
  go_enter Try.func85, Try.ntmps85
  go_wp2_with (at_make; refine wpList_make_full _ rfl (.tmp 10) (.tmp 10) 94 rfl w.heap.size 41 i0 _ 1 Try.underlying94 Hi.out Hz0.out Hz1.out .i64 .i64 n n n rfl rfl rfl rfl (by rw [Hz2.out]; omega) (by unfold maxLen; omega) (by omega) ?_; intro w1 hown hgrow)
  have P : Hid (TabP w1 w.heap.size n 0 (fun _ => 0) (tab0 [])) := TabP.zero hown
  have E := ext_grown (ext_refl w) hgrow (by simp)
  clear hown hgrow
  go_loopg [14] n (fun m ii wr => ∃ (i : Nat) (b : Nat → Nat), i ≤ n ∧ m = n - i ∧ ii = .int .i64 i ∧ Hid (TabP wr w.heap.size n i b (tab0 [])) ∧ Below w.heap.size w wr)
  case atStart => exact ⟨0, fun _ => 0, by omega, by omega, rfl, P, E⟩
  case round =>
    clear P E
    obtain ⟨i, b, hin, hgk, rfl, P, E⟩ := hrel
    have Hk := Lib.hid hgk
    clear hgk
    by_cases hlt : i < n
    · have hOl := P.out.olt
      go_upto_region 6 with (at_make; refine wpList_make_full _ rfl (.tmp 19) (.tmp 19) 41 rfl w.heap.size 3 i1 _ 1 Try.underlying41 Hi'.out Hz0'.out Hz1'.out .i64 .i64 n n n rfl rfl rfl rfl (by rw [Hz2'.out]; omega) (by unfold maxLen; omega) (by omega) ?_; intro w2 hown hgrow; have hE2 : Below wr.heap.size wr w2 := ext_grown (ext_refl wr) hgrow (by simp); have hP2 := Lib.hid (P.out.ext hE2); have hO2 : Hid (Ints w2 w.heap.size (.slice (some ⟨wr.heap.size, 0, none⟩) n n) (rowOf n fun _ => 0)) := (by show Ints _ _ _ _; unfold Ints; rw [rowOf_length, ← zeros_made]; exact hown); clear hown hgrow; have hq2 := hE2.size; have hfr := hP2.out.ofrozen (by omega); have hol2 := hP2.out.olt; have hno2 := hP2.out.nohead hlt)
      obtain ⟨w3, hw3⟩ : ∃ w3, Hid (w3 = w2.setCell ⟨w.heap.size, i, none⟩ (.slice (some ⟨wr.heap.size, 0, none⟩) n n)) := ⟨_, rfl⟩
      have P3 : Hid (TabP w3 w.heap.size n (i+1) (fun c => if c = i then wr.heap.size else b c) (fun a c => if a = i then 0 else tab0 [] a c)) := by
        rw [hw3.out]; exact Lib.hid (hP2.out.more hlt hO2.out hOl (fun c hc => P.out.blt hc))
      have E3 : Below w.heap.size w w3 := by rw [hw3.out]; exact ext_set (ext_trans E hE2) (Nat.le_refl _) _
      rw [← hw3.out]
      clear hfr hol2 hno2 hE2 hP2 hO2 hw3
      obtain ⟨b2, Hb2⟩ : ∃ f : Nat → Nat, Hid (f = fun c => if c = i then wr.heap.size else b c) := ⟨_, rfl⟩
      rw [← Hb2.out] at P3
      obtain ⟨B, HB⟩ : ∃ q, Hid (q = b2 i) := ⟨_, rfl⟩
      have hc3 := P3.out.head (i := i) (Nat.lt_succ_self i)
      rw [← HB.out] at hc3
      clear Hb2
      have hol3 := P3.out.olt
      go_wp2_with fail
      clear hc3
      have P3 : Hid (TabP w3 w.heap.size n (i+1) b2 (fun a c => if a = i then (if c < 0 then 100000 else 0) else tab0 [] a c)) := Lib.hid (P3.out.congr fun a c ha hc => by by_cases h : a = i <;> simp [h])
      go_loopg [27] n (fun m kk wx => ∃ k : Nat, k ≤ n ∧ m = n - k ∧ kk = .int .i64 k ∧ Hid (TabP wx w.heap.size n (i+1) b2 (fun a c => if a = i then (if c < k then 100000 else 0) else tab0 [] a c)) ∧ Below w.heap.size w wx)
      case atStart => exact ⟨0, by omega, by omega, rfl, P3, E3⟩
      case round =>
        rename World => wx
        clear P3 E3
        obtain ⟨k, hk, hgk, rfl, P3, E3⟩ := hrel
        have Hkk := Lib.hid hgk
        clear hgk
        have hc3 := P3.out.head (i := i) (Nat.lt_succ_self i)
        rw [← HB.out] at hc3
        have hol3 := P3.out.olt
        have hbl3 := P3.out.blt (i := i) (Nat.lt_succ_self i)
        have hlow := P3.out.lt i (Nat.lt_succ_self i)
        have hfr3 := P3.out.frozen (i := i) (Nat.lt_succ_self i)
        rw [← HB.out] at hbl3 hlow hfr3
        by_cases hlk : k < n
        · have hcl3 := P3.out.cell (i := i) (Nat.lt_succ_self i) hlk
          rw [← HB.out] at hcl3
          generalize (if i = i then (if k < k then (100000 : Int) else 0) else tab0 [] i k) = z at hcl3
          go_wp2_with fail
          go_roundg (n - (k+1))
          case rel =>
            refine ⟨k+1, by omega, rfl, by go_num, ?_, ext_set E3 (by dsimp only; omega) _⟩
            have h := P3.out.set (i := i) (j := k) (Nat.lt_succ_self i) hlk 100000
            rw [← HB.out] at h
            refine Lib.hid (h.congr fun a c ha hc => ?_)
            by_cases h1 : a = i
            · by_cases h2 : c = k
              · rw [if_pos ⟨h1, h2⟩, if_pos h1, if_pos (by omega)]
              · rw [if_neg (fun h => h2 h.2), if_pos h1, if_pos h1]
                by_cases h3 : c < k
                · rw [if_pos h3, if_pos (by omega)]
                · rw [if_neg h3, if_neg (by omega)]
            · rw [if_neg (fun h => h1 h.1), if_neg h1, if_neg h1]
          case measure => have := Hkk.out; omega
        · have hkn : n = k := by omega
          subst hkn
          have hcl3 := P3.out.cell (i := i) (Nat.lt_succ_self i) hlt
          rw [← HB.out] at hcl3
          generalize (if i = i then (if i < n then (100000 : Int) else 0) else tab0 [] i i) = z at hcl3
          go_wp2_with fail
          go_roundg (n - (i+1))
          case rel =>
            refine ⟨i+1, b2, by omega, rfl, by go_num, ?_, ext_set E3 (by dsimp only; omega) _⟩
            have h := P3.out.set (i := i) (j := i) (Nat.lt_succ_self i) hlt 0
            rw [← HB.out] at h
            refine Lib.hid (h.congr fun a c ha hc => ?_)
            by_cases h1 : a = i
            · by_cases h2 : c = i
              · rw [if_pos ⟨h1, h2⟩, tab0_nil, if_pos (by omega)]
              · rw [if_neg (fun h => h2 h.2), if_pos h1, if_pos hc, tab0_nil, if_neg (by omega)]
            · rw [if_neg (fun h => h1 h.1), if_neg h1]
          case measure => have := Hk.out; omega
    · have hin : n = i := by omega
      subst hin
      have P : Hid (TabP wr w.heap.size n n b (tab0 (bs.take 0))) := by rw [List.take_zero]; exact P
      go_wp2_with fail
      go_loopg [46] bs.length (fun m kk wx => ∃ k : Nat, k ≤ bs.length ∧ m = bs.length - k ∧ kk = .int .i64 k ∧ Hid (TabP wx w.heap.size n n b (tab0 (bs.take k))) ∧ Below w.heap.size w wx)
      case atStart => exact ⟨0, by omega, by omega, rfl, P, E⟩
      case round =>
        rename World => wx
        clear P E
        obtain ⟨k, hk, hgk, rfl, P, E⟩ := hrel
        have Hkk := Lib.hid hgk
        clear hgk
        by_cases hlk : k < bs.length
        · obtain ⟨g, rfl, _, hg, _, c0, c1, c2⟩ := (V.out.ext E).at_ hlk
          obtain ⟨⟨f, hf, hfn⟩, ⟨t, ht, htn⟩, hm1, hm2⟩ := Hin.out k hlk
          have Hf := Lib.hid hf; have Ht := Lib.hid ht
          rw [hf] at c0
          rw [ht] at c1
          obtain ⟨m, Hm⟩ : ∃ m, Hid (m = (bs.getD k Bd.z).m) := ⟨_, rfl⟩
          rw [← Hm.out] at c2 hm1 hm2
          clear hf ht
          go_upto_region 16 with fail
          obtain ⟨w4, hw4, B4, hs4, E4⟩ := one_box wx #[.int .i64 f, .int .i64 t, .int .i64 m] 78
          rw [← hw4.out]
          have P4 := Lib.hid (P.out.ext E4)
          have E := ext_trans E E4
          clear P c0 c1 c2 E4
          have hcO := P4.out.head hfn
          have hcx := P4.out.cell hfn htn
          have hol := P4.out.olt
          have hbl := P4.out.blt hfn
          have hlow := P4.out.lt f hfn
          have hfr := P4.out.frozen hfn
          obtain ⟨B, HB⟩ : ∃ q, Hid (q = b f) := ⟨_, rfl⟩
          obtain ⟨x, Hx⟩ : ∃ q, Hid (q = tab0 (bs.take k) f t) := ⟨_, rfl⟩
          rw [← HB.out] at hcO hcx hbl hlow hfr
          rw [← Hx.out] at hcx
          have hnext : Hid (TabP (w4.setCell ⟨B, t, none⟩ (.int .i64 (min x m))) w.heap.size n n b (tab0 (bs.take (k+1)))) := by
            have h := P4.out.set hfn htn (min x m)
            rw [← HB.out] at h
            refine Lib.hid (h.congr fun a c ha hc => ?_)
            rw [tab0_take bs k hlk, Hf.out, Ht.out]
            by_cases h1 : a = f ∧ c = t
            · rw [if_pos h1, if_pos (by omega), Hx.out, Hm.out, h1.1, h1.2]
            · rw [if_neg h1, if_neg (by omega)]
          by_cases hxm : x ≤ m
          · rw [Int.min_eq_left hxm] at hnext
            refine wp_region_tail 20 (by kernel_rfl) (by kernel_rfl) (fun w' => w'.cell? ⟨wx.heap.size, 0, none⟩ = some (.int .i64 f) ∧ w'.cell? ⟨wx.heap.size, 1, none⟩ = some (.int .i64 t) ∧ w'.cell? ⟨wx.heap.size, 2, none⟩ = some (.int .i64 m) ∧ w'.cell? ⟨w.heap.size, f, none⟩ = some (.slice (some ⟨B, 0, none⟩) n n) ∧ w'.cell? ⟨B, t, none⟩ = some (.int .i64 x)) ?_ ?_
            · exact ⟨B4.cell0 rfl, B4.cell0 rfl, B4.cell0 rfl, hcO, hcx⟩
            intro hHeld
            simp only [List.pop_toArray, List.dropLast]
            refine wpAnyH_take (i := 0) (v := ?_) rfl (by kernel_rfl) (by kernel_rfl) (by kernel_rfl) (fun _ _ _ h => h) (Or.inl ⟨by rfl, fun w' hS' => ?_⟩) (by assumption) ?_
            rotate_left
            · (try dsimp only at hS'); go_simp; (try rw [if_pos (by omega)]); try with_reducible rfl
            try simp only [Act.put, List.getElem_toArray, List.getElem_cons_zero, List.getElem_cons_succ, List.setIfInBounds_toArray, List.set_cons_zero, List.set_cons_succ]
            refine wpAnyH_take (i := 1) (v := ?_) rfl (by kernel_rfl) (by kernel_rfl) (by kernel_rfl) (fun _ _ _ h => h) (Or.inl ⟨by rfl, fun w' hS' => ?_⟩) (by assumption) ?_
            rotate_left
            · (try dsimp only at hS'); go_simp; (try rw [if_pos (by omega)]); try with_reducible rfl
            try simp only [Act.put, List.getElem_toArray, List.getElem_cons_zero, List.getElem_cons_succ, List.setIfInBounds_toArray, List.set_cons_zero, List.set_cons_succ]
            refine wpAnyH_take (i := 2) (v := ?_) rfl (by kernel_rfl) (by kernel_rfl) (by kernel_rfl) (fun _ _ _ h => h) (Or.inl ⟨by rfl, fun w' hS' => ?_⟩) (by assumption) ?_
            rotate_left
            · (try dsimp only at hS'); go_simp; (try rw [if_pos (by omega)]); try with_reducible rfl
            try simp only [Act.put, List.getElem_toArray, List.getElem_cons_zero, List.getElem_cons_succ, List.setIfInBounds_toArray, List.set_cons_zero, List.set_cons_succ]
            refine wpAnyH_take (i := 3) (v := ?_) rfl (by kernel_rfl) (by kernel_rfl) (by kernel_rfl) (fun _ _ _ h => h) (Or.inl ⟨by rfl, fun w' hS' => ?_⟩) (by assumption) ?_
            rotate_left
            · (try dsimp only at hS'); go_simp; (try rw [if_pos (by omega)]); try with_reducible rfl
            try simp only [Act.put, List.getElem_toArray, List.getElem_cons_zero, List.getElem_cons_succ, List.setIfInBounds_toArray, List.set_cons_zero, List.set_cons_succ]
            refine wpAnyH_take (i := 4) (v := ?_) rfl (by kernel_rfl) (by kernel_rfl) (by kernel_rfl) (fun _ _ _ h => h) (Or.inl ⟨by rfl, fun w' hS' => ?_⟩) (by assumption) ?_
            rotate_left
            · (try dsimp only at hS'); go_simp; (try rw [if_pos (by omega)]); try with_reducible rfl
            try simp only [Act.put, List.getElem_toArray, List.getElem_cons_zero, List.getElem_cons_succ, List.setIfInBounds_toArray, List.set_cons_zero, List.set_cons_succ]
            refine wpAnyH_take (i := 5) (v := ?_) rfl (by kernel_rfl) (by kernel_rfl) (by kernel_rfl) (fun _ _ _ h => h) (Or.inl ⟨by rfl, fun w' hS' => ?_⟩) (by assumption) ?_
            rotate_left
            · (try dsimp only at hS'); go_simp; (try rw [if_pos (by omega)]); try with_reducible rfl
            try simp only [Act.put, List.getElem_toArray, List.getElem_cons_zero, List.getElem_cons_succ, List.setIfInBounds_toArray, List.set_cons_zero, List.set_cons_succ]
            refine wpAnyH_take (i := 6) (v := ?_) rfl (by kernel_rfl) (by kernel_rfl) (by kernel_rfl) (fun _ _ _ h => h) (Or.inl ⟨by rfl, fun w' hS' => ?_⟩) (by assumption) ?_
            rotate_left
            · (try dsimp only at hS'); go_simp; (try rw [if_pos (by omega)]); try with_reducible rfl
            try simp only [Act.put, List.getElem_toArray, List.getElem_cons_zero, List.getElem_cons_succ, List.setIfInBounds_toArray, List.set_cons_zero, List.set_cons_succ]
            refine wpAnyH_take (i := 7) (v := ?_) rfl (by kernel_rfl) (by kernel_rfl) (by kernel_rfl) (fun _ _ _ h => h) (Or.inl ⟨by rfl, fun w' hS' => ?_⟩) (by assumption) ?_
            rotate_left
            · (try dsimp only at hS'); go_simp; (try rw [if_pos (by omega)]); try with_reducible rfl
            try simp only [Act.put, List.getElem_toArray, List.getElem_cons_zero, List.getElem_cons_succ, List.setIfInBounds_toArray, List.set_cons_zero, List.set_cons_succ]
            refine wpAnyH_take (i := 8) (v := ?_) rfl (by kernel_rfl) (by kernel_rfl) (by kernel_rfl) (fun _ _ _ h => h) (Or.inl ⟨by rfl, fun w' hS' => ?_⟩) (by assumption) ?_
            rotate_left
            · (try dsimp only at hS'); go_simp; (try rw [if_pos (by omega)]); try with_reducible rfl
            try simp only [Act.put, List.getElem_toArray, List.getElem_cons_zero, List.getElem_cons_succ, List.setIfInBounds_toArray, List.set_cons_zero, List.set_cons_succ]
            refine wpAnyH_take (i := 9) (v := ?_) rfl (by kernel_rfl) (by kernel_rfl) (by kernel_rfl) (fun _ _ _ h => h) (Or.inl ⟨by rfl, fun w' hS' => ?_⟩) (by assumption) ?_
            rotate_left
            · (try dsimp only at hS'); go_simp; (try rw [if_pos (by omega)]); try with_reducible rfl
            try simp only [Act.put, List.getElem_toArray, List.getElem_cons_zero, List.getElem_cons_succ, List.setIfInBounds_toArray, List.set_cons_zero, List.set_cons_succ]
            refine wpAnyH_take (i := 10) (v := ?_) rfl (by kernel_rfl) (by kernel_rfl) (by kernel_rfl) (fun _ _ _ h => h) (Or.inl ⟨by rfl, fun w' hS' => ?_⟩) (by assumption) ?_
            rotate_left
            · (try dsimp only at hS'); go_simp; (try rw [if_pos (by omega)]); try with_reducible rfl
            try simp only [Act.put, List.getElem_toArray, List.getElem_cons_zero, List.getElem_cons_succ, List.setIfInBounds_toArray, List.set_cons_zero, List.set_cons_succ]
            refine wpAnyH_take (i := 11) (v := ?_) rfl (by kernel_rfl) (by kernel_rfl) (by kernel_rfl) (fun _ _ _ h => h) (Or.inl ⟨by rfl, fun w' hS' => ?_⟩) (by assumption) ?_
            rotate_left
            · (try dsimp only at hS'); go_simp; (try rw [if_pos (by omega)]); try with_reducible rfl
            try simp only [Act.put, List.getElem_toArray, List.getElem_cons_zero, List.getElem_cons_succ, List.setIfInBounds_toArray, List.set_cons_zero, List.set_cons_succ]
            refine wpAnyH_take (i := 12) (v := ?_) rfl (by kernel_rfl) (by kernel_rfl) (by kernel_rfl) (fun _ _ _ h => h) (Or.inl ⟨by rfl, fun w' hS' => ?_⟩) (by assumption) ?_
            rotate_left
            · (try dsimp only at hS'); go_simp; (try rw [if_pos (by omega)]); try with_reducible rfl
            try simp only [Act.put, List.getElem_toArray, List.getElem_cons_zero, List.getElem_cons_succ, List.setIfInBounds_toArray, List.set_cons_zero, List.set_cons_succ]
            refine wpAnyH_take (i := 13) (v := ?_) rfl (by kernel_rfl) (by kernel_rfl) (by kernel_rfl) (fun _ _ _ h => h) (Or.inl ⟨by rfl, fun w' hS' => ?_⟩) (by assumption) ?_
            rotate_left
            · (try dsimp only at hS'); go_simp; (try rw [if_pos (by omega)]); try with_reducible rfl
            try simp only [Act.put, List.getElem_toArray, List.getElem_cons_zero, List.getElem_cons_succ, List.setIfInBounds_toArray, List.set_cons_zero, List.set_cons_succ]
            refine wpAnyH_take (i := 14) (v := ?_) rfl (by kernel_rfl) (by kernel_rfl) (by kernel_rfl) (fun _ _ _ h => h) (Or.inl ⟨by rfl, fun w' hS' => ?_⟩) (by assumption) ?_
            rotate_left
            · (try dsimp only at hS'); go_simp; (try rw [if_pos (by omega)]); try with_reducible rfl
            try simp only [Act.put, List.getElem_toArray, List.getElem_cons_zero, List.getElem_cons_succ, List.setIfInBounds_toArray, List.set_cons_zero, List.set_cons_succ]
            refine wpAnyH_take (i := 15) (v := ?_) rfl (by kernel_rfl) (by kernel_rfl) (by kernel_rfl) (fun _ _ _ h => h) (Or.inl ⟨by rfl, fun w' hS' => ?_⟩) (by assumption) ?_
            rotate_left
            · (try dsimp only at hS'); go_simp; (try rw [if_pos (by omega)]); try with_reducible rfl
            try simp only [Act.put, List.getElem_toArray, List.getElem_cons_zero, List.getElem_cons_succ, List.setIfInBounds_toArray, List.set_cons_zero, List.set_cons_succ]
            refine wpAnyH_take (i := 16) (v := ?_) rfl (by kernel_rfl) (by kernel_rfl) (by kernel_rfl) (fun _ _ _ h => h) (Or.inl ⟨by rfl, fun w' hS' => ?_⟩) (by assumption) ?_
            rotate_left
            · (try dsimp only at hS'); go_simp; (try rw [if_pos (by omega)]); try with_reducible rfl
            try simp only [Act.put, List.getElem_toArray, List.getElem_cons_zero, List.getElem_cons_succ, List.setIfInBounds_toArray, List.set_cons_zero, List.set_cons_succ]
            refine wpAnyH_take (i := 17) (v := ?_) rfl (by kernel_rfl) (by kernel_rfl) (by kernel_rfl) (fun _ _ _ h => h) (Or.inl ⟨by rfl, fun w' hS' => ?_⟩) (by assumption) ?_
            rotate_left
            · (try dsimp only at hS'); go_simp; (try rw [if_pos (by omega)]); try with_reducible rfl
            try simp only [Act.put, List.getElem_toArray, List.getElem_cons_zero, List.getElem_cons_succ, List.setIfInBounds_toArray, List.set_cons_zero, List.set_cons_succ]
            refine wpAnyH_take (i := 18) (v := ?_) rfl (by kernel_rfl) (by kernel_rfl) (by kernel_rfl) (fun _ _ _ h => h) (Or.inl ⟨by rfl, fun w' hS' => ?_⟩) (by assumption) ?_
            rotate_left
            · (try dsimp only at hS'); go_simp; (try rw [if_pos (by omega)]); try with_reducible rfl
            try simp only [Act.put, List.getElem_toArray, List.getElem_cons_zero, List.getElem_cons_succ, List.setIfInBounds_toArray, List.set_cons_zero, List.set_cons_succ]
            refine wpAnyH_take (i := 19) (v := ?_) rfl (by kernel_rfl) (by kernel_rfl) (by kernel_rfl) (fun _ _ _ h => h) (Or.inl ⟨by rfl, fun w' hS' => ?_⟩) (by assumption) ?_
            rotate_left
            · (try dsimp only at hS'); go_simp; (try rw [if_pos (by omega)]); try with_reducible rfl
            try simp only [Act.put, List.getElem_toArray, List.getElem_cons_zero, List.getElem_cons_succ, List.setIfInBounds_toArray, List.set_cons_zero, List.set_cons_succ]
            refine wpAnyH_done (by kernel_rfl) ?_ _
            refine tail_step rfl (fun K' hK => ?_)
            refine if_yes (by rfl) ?_
            try simp only [Act.put, List.getElem_toArray, List.getElem_cons_zero, List.getElem_cons_succ, List.setIfInBounds_toArray, List.set_cons_zero, List.set_cons_succ]
            go_simp
            refine hK _ _ ?_
            clear hK K'
            try simp only [Act.put, List.getElem_toArray, List.getElem_cons_zero, List.getElem_cons_succ, List.setIfInBounds_toArray, List.set_cons_zero, List.set_cons_succ]
            go_wp2_with fail
            go_roundg (bs.length - (k+1))
            case rel => exact ⟨k+1, by omega, rfl, by go_num, Lib.hid hnext.out.drew, ext_drew (ext_set E (by dsimp only; omega) _)⟩
            case measure => have := Hkk.out; omega
          · rw [Int.min_eq_right (by omega)] at hnext
            refine wp_region_tail 20 (by kernel_rfl) (by kernel_rfl) (fun w' => w'.cell? ⟨wx.heap.size, 0, none⟩ = some (.int .i64 f) ∧ w'.cell? ⟨wx.heap.size, 1, none⟩ = some (.int .i64 t) ∧ w'.cell? ⟨wx.heap.size, 2, none⟩ = some (.int .i64 m) ∧ w'.cell? ⟨w.heap.size, f, none⟩ = some (.slice (some ⟨B, 0, none⟩) n n) ∧ w'.cell? ⟨B, t, none⟩ = some (.int .i64 x)) ?_ ?_
            · exact ⟨B4.cell0 rfl, B4.cell0 rfl, B4.cell0 rfl, hcO, hcx⟩
            intro hHeld
            simp only [List.pop_toArray, List.dropLast]
            refine wpAnyH_take (i := 0) (v := ?_) rfl (by kernel_rfl) (by kernel_rfl) (by kernel_rfl) (fun _ _ _ h => h) (Or.inl ⟨by rfl, fun w' hS' => ?_⟩) (by assumption) ?_
            rotate_left
            · (try dsimp only at hS'); go_simp; (try rw [if_pos (by omega)]); try with_reducible rfl
            try simp only [Act.put, List.getElem_toArray, List.getElem_cons_zero, List.getElem_cons_succ, List.setIfInBounds_toArray, List.set_cons_zero, List.set_cons_succ]
            refine wpAnyH_take (i := 1) (v := ?_) rfl (by kernel_rfl) (by kernel_rfl) (by kernel_rfl) (fun _ _ _ h => h) (Or.inl ⟨by rfl, fun w' hS' => ?_⟩) (by assumption) ?_
            rotate_left
            · (try dsimp only at hS'); go_simp; (try rw [if_pos (by omega)]); try with_reducible rfl
            try simp only [Act.put, List.getElem_toArray, List.getElem_cons_zero, List.getElem_cons_succ, List.setIfInBounds_toArray, List.set_cons_zero, List.set_cons_succ]
            refine wpAnyH_take (i := 2) (v := ?_) rfl (by kernel_rfl) (by kernel_rfl) (by kernel_rfl) (fun _ _ _ h => h) (Or.inl ⟨by rfl, fun w' hS' => ?_⟩) (by assumption) ?_
            rotate_left
            · (try dsimp only at hS'); go_simp; (try rw [if_pos (by omega)]); try with_reducible rfl
            try simp only [Act.put, List.getElem_toArray, List.getElem_cons_zero, List.getElem_cons_succ, List.setIfInBounds_toArray, List.set_cons_zero, List.set_cons_succ]
            refine wpAnyH_take (i := 3) (v := ?_) rfl (by kernel_rfl) (by kernel_rfl) (by kernel_rfl) (fun _ _ _ h => h) (Or.inl ⟨by rfl, fun w' hS' => ?_⟩) (by assumption) ?_
            rotate_left
            · (try dsimp only at hS'); go_simp; (try rw [if_pos (by omega)]); try with_reducible rfl
            try simp only [Act.put, List.getElem_toArray, List.getElem_cons_zero, List.getElem_cons_succ, List.setIfInBounds_toArray, List.set_cons_zero, List.set_cons_succ]
            refine wpAnyH_take (i := 4) (v := ?_) rfl (by kernel_rfl) (by kernel_rfl) (by kernel_rfl) (fun _ _ _ h => h) (Or.inl ⟨by rfl, fun w' hS' => ?_⟩) (by assumption) ?_
            rotate_left
            · (try dsimp only at hS'); go_simp; (try rw [if_pos (by omega)]); try with_reducible rfl
            try simp only [Act.put, List.getElem_toArray, List.getElem_cons_zero, List.getElem_cons_succ, List.setIfInBounds_toArray, List.set_cons_zero, List.set_cons_succ]
            refine wpAnyH_take (i := 5) (v := ?_) rfl (by kernel_rfl) (by kernel_rfl) (by kernel_rfl) (fun _ _ _ h => h) (Or.inl ⟨by rfl, fun w' hS' => ?_⟩) (by assumption) ?_
            rotate_left
            · (try dsimp only at hS'); go_simp; (try rw [if_pos (by omega)]); try with_reducible rfl
            try simp only [Act.put, List.getElem_toArray, List.getElem_cons_zero, List.getElem_cons_succ, List.setIfInBounds_toArray, List.set_cons_zero, List.set_cons_succ]
            refine wpAnyH_take (i := 6) (v := ?_) rfl (by kernel_rfl) (by kernel_rfl) (by kernel_rfl) (fun _ _ _ h => h) (Or.inl ⟨by rfl, fun w' hS' => ?_⟩) (by assumption) ?_
            rotate_left
            · (try dsimp only at hS'); go_simp; (try rw [if_pos (by omega)]); try with_reducible rfl
            try simp only [Act.put, List.getElem_toArray, List.getElem_cons_zero, List.getElem_cons_succ, List.setIfInBounds_toArray, List.set_cons_zero, List.set_cons_succ]
            refine wpAnyH_take (i := 7) (v := ?_) rfl (by kernel_rfl) (by kernel_rfl) (by kernel_rfl) (fun _ _ _ h => h) (Or.inl ⟨by rfl, fun w' hS' => ?_⟩) (by assumption) ?_
            rotate_left
            · (try dsimp only at hS'); go_simp; (try rw [if_pos (by omega)]); try with_reducible rfl
            try simp only [Act.put, List.getElem_toArray, List.getElem_cons_zero, List.getElem_cons_succ, List.setIfInBounds_toArray, List.set_cons_zero, List.set_cons_succ]
            refine wpAnyH_take (i := 8) (v := ?_) rfl (by kernel_rfl) (by kernel_rfl) (by kernel_rfl) (fun _ _ _ h => h) (Or.inl ⟨by rfl, fun w' hS' => ?_⟩) (by assumption) ?_
            rotate_left
            · (try dsimp only at hS'); go_simp; (try rw [if_pos (by omega)]); try with_reducible rfl
            try simp only [Act.put, List.getElem_toArray, List.getElem_cons_zero, List.getElem_cons_succ, List.setIfInBounds_toArray, List.set_cons_zero, List.set_cons_succ]
            refine wpAnyH_take (i := 9) (v := ?_) rfl (by kernel_rfl) (by kernel_rfl) (by kernel_rfl) (fun _ _ _ h => h) (Or.inl ⟨by rfl, fun w' hS' => ?_⟩) (by assumption) ?_
            rotate_left
            · (try dsimp only at hS'); go_simp; (try rw [if_pos (by omega)]); try with_reducible rfl
            try simp only [Act.put, List.getElem_toArray, List.getElem_cons_zero, List.getElem_cons_succ, List.setIfInBounds_toArray, List.set_cons_zero, List.set_cons_succ]
            refine wpAnyH_take (i := 10) (v := ?_) rfl (by kernel_rfl) (by kernel_rfl) (by kernel_rfl) (fun _ _ _ h => h) (Or.inl ⟨by rfl, fun w' hS' => ?_⟩) (by assumption) ?_
            rotate_left
            · (try dsimp only at hS'); go_simp; (try rw [if_pos (by omega)]); try with_reducible rfl
            try simp only [Act.put, List.getElem_toArray, List.getElem_cons_zero, List.getElem_cons_succ, List.setIfInBounds_toArray, List.set_cons_zero, List.set_cons_succ]
            refine wpAnyH_take (i := 11) (v := ?_) rfl (by kernel_rfl) (by kernel_rfl) (by kernel_rfl) (fun _ _ _ h => h) (Or.inl ⟨by rfl, fun w' hS' => ?_⟩) (by assumption) ?_
            rotate_left
            · (try dsimp only at hS'); go_simp; (try rw [if_pos (by omega)]); try with_reducible rfl
            try simp only [Act.put, List.getElem_toArray, List.getElem_cons_zero, List.getElem_cons_succ, List.setIfInBounds_toArray, List.set_cons_zero, List.set_cons_succ]
            refine wpAnyH_take (i := 12) (v := ?_) rfl (by kernel_rfl) (by kernel_rfl) (by kernel_rfl) (fun _ _ _ h => h) (Or.inl ⟨by rfl, fun w' hS' => ?_⟩) (by assumption) ?_
            rotate_left
            · (try dsimp only at hS'); go_simp; (try rw [if_pos (by omega)]); try with_reducible rfl
            try simp only [Act.put, List.getElem_toArray, List.getElem_cons_zero, List.getElem_cons_succ, List.setIfInBounds_toArray, List.set_cons_zero, List.set_cons_succ]
            refine wpAnyH_take (i := 13) (v := ?_) rfl (by kernel_rfl) (by kernel_rfl) (by kernel_rfl) (fun _ _ _ h => h) (Or.inl ⟨by rfl, fun w' hS' => ?_⟩) (by assumption) ?_
            rotate_left
            · (try dsimp only at hS'); go_simp; (try rw [if_pos (by omega)]); try with_reducible rfl
            try simp only [Act.put, List.getElem_toArray, List.getElem_cons_zero, List.getElem_cons_succ, List.setIfInBounds_toArray, List.set_cons_zero, List.set_cons_succ]
            refine wpAnyH_take (i := 14) (v := ?_) rfl (by kernel_rfl) (by kernel_rfl) (by kernel_rfl) (fun _ _ _ h => h) (Or.inl ⟨by rfl, fun w' hS' => ?_⟩) (by assumption) ?_
            rotate_left
            · (try dsimp only at hS'); go_simp; (try rw [if_pos (by omega)]); try with_reducible rfl
            try simp only [Act.put, List.getElem_toArray, List.getElem_cons_zero, List.getElem_cons_succ, List.setIfInBounds_toArray, List.set_cons_zero, List.set_cons_succ]
            refine wpAnyH_take (i := 15) (v := ?_) rfl (by kernel_rfl) (by kernel_rfl) (by kernel_rfl) (fun _ _ _ h => h) (Or.inl ⟨by rfl, fun w' hS' => ?_⟩) (by assumption) ?_
            rotate_left
            · (try dsimp only at hS'); go_simp; (try rw [if_pos (by omega)]); try with_reducible rfl
            try simp only [Act.put, List.getElem_toArray, List.getElem_cons_zero, List.getElem_cons_succ, List.setIfInBounds_toArray, List.set_cons_zero, List.set_cons_succ]
            refine wpAnyH_take (i := 16) (v := ?_) rfl (by kernel_rfl) (by kernel_rfl) (by kernel_rfl) (fun _ _ _ h => h) (Or.inl ⟨by rfl, fun w' hS' => ?_⟩) (by assumption) ?_
            rotate_left
            · (try dsimp only at hS'); go_simp; (try rw [if_pos (by omega)]); try with_reducible rfl
            try simp only [Act.put, List.getElem_toArray, List.getElem_cons_zero, List.getElem_cons_succ, List.setIfInBounds_toArray, List.set_cons_zero, List.set_cons_succ]
            refine wpAnyH_take (i := 17) (v := ?_) rfl (by kernel_rfl) (by kernel_rfl) (by kernel_rfl) (fun _ _ _ h => h) (Or.inl ⟨by rfl, fun w' hS' => ?_⟩) (by assumption) ?_
            rotate_left
            · (try dsimp only at hS'); go_simp; (try rw [if_pos (by omega)]); try with_reducible rfl
            try simp only [Act.put, List.getElem_toArray, List.getElem_cons_zero, List.getElem_cons_succ, List.setIfInBounds_toArray, List.set_cons_zero, List.set_cons_succ]
            refine wpAnyH_take (i := 18) (v := ?_) rfl (by kernel_rfl) (by kernel_rfl) (by kernel_rfl) (fun _ _ _ h => h) (Or.inl ⟨by rfl, fun w' hS' => ?_⟩) (by assumption) ?_
            rotate_left
            · (try dsimp only at hS'); go_simp; (try rw [if_pos (by omega)]); try with_reducible rfl
            try simp only [Act.put, List.getElem_toArray, List.getElem_cons_zero, List.getElem_cons_succ, List.setIfInBounds_toArray, List.set_cons_zero, List.set_cons_succ]
            refine wpAnyH_take (i := 19) (v := ?_) rfl (by kernel_rfl) (by kernel_rfl) (by kernel_rfl) (fun _ _ _ h => h) (Or.inl ⟨by rfl, fun w' hS' => ?_⟩) (by assumption) ?_
            rotate_left
            · (try dsimp only at hS'); go_simp; (try rw [if_pos (by omega)]); try with_reducible rfl
            try simp only [Act.put, List.getElem_toArray, List.getElem_cons_zero, List.getElem_cons_succ, List.setIfInBounds_toArray, List.set_cons_zero, List.set_cons_succ]
            refine wpAnyH_done (by kernel_rfl) ?_ _
            refine tail_step rfl (fun K' hK => ?_)
            refine if_yes (by rfl) ?_
            try simp only [Act.put, List.getElem_toArray, List.getElem_cons_zero, List.getElem_cons_succ, List.setIfInBounds_toArray, List.set_cons_zero, List.set_cons_succ]
            go_simp
            refine hK _ _ ?_
            clear hK K'
            try simp only [Act.put, List.getElem_toArray, List.getElem_cons_zero, List.getElem_cons_succ, List.setIfInBounds_toArray, List.set_cons_zero, List.set_cons_succ]
            go_wp2_with fail
            go_roundg (bs.length - (k+1))
            case rel => exact ⟨k+1, by omega, rfl, by go_num, Lib.hid hnext.out.drew, ext_drew (ext_set E (by dsimp only; omega) _)⟩
            case measure => have := Hkk.out; omega
        · have hkn : k = bs.length := by omega
          subst hkn
          rw [List.take_length] at P
          go_wp2_with fail
          go_ret
          exact ⟨_, b, rfl, Nat.le_refl _, P.out, E⟩
end Go.Proofs.Ytffcfambgcaikaa
