/- The walk of FnNeedlessOk: it returns true, whatever code came in. Condition: the bytes of the code can be read. -/
import Derived.Test.YtpccfkbpnfbdaaaDrawnN
import Derived.Test.YtpccfkbpnfbdaaaNeedMath
import Derived.Test.YtpccfkbpnfbdaaaSame
import Derived.Test.YtpccfkbpnfbdaaaLawInts
namespace Go.Proofs.Ytpccfkbpnfbdaaa
open Go.RowKit
set_option linter.unusedVariables false
set_option linter.unusedSimpArgs false
set_option maxRecDepth 100000 in
set_option maxHeartbeats 8000000 in
theorem walk_NeedlessOk (a : Option Addr) (n cap : Nat) (w : World) (h : Byt w w.heap.size a n cap) :
    Calls Try.prog 4 #[.slice a n cap] w fun e w' => e = .returned (.bool true) ∧ Below w.heap.size w w' := by
  have H := Lib.hid h
  obtain ⟨hncap, hcap, -⟩ := id h
  clear h
  by_cases hbig : 1048576 < n
  · go_enter Try.func4, Try.ntmps4
    go_wp2_with fail
    go_ret
    exact ⟨rfl, ext_refl _⟩
  go_enter Try.func4, Try.ntmps4
  go_wp2_with fail
  refine (spec_DrawNeedlessOk a n cap w H.out).mono ?_
  rintro e w1 ⟨bs, p, at_, rfl, hV, hl, h0, h7, hb1⟩
  have E := hb1
  clear hb1
  obtain ⟨av, cv, rfl, -⟩ := hV.open
  have V := Lib.hid hV
  clear hV
  go_wp2_with fail
  obtain ⟨w2, hw2, A0, hs2, hb2⟩ := one_box w1 #[.int .i64 p.pts, .slice av p.bs.length cv] 29
  rw [← hw2.out]
  have V := Lib.hid (V.out.ext hb2)
  have E := ext_trans E hb2
  clear hb2
  obtain ⟨rcA0, rzA0⟩ := (A0).rules; have rlA0 := (A0).lt
  go_wp2_with fail
  obtain ⟨ok, hok⟩ : ∃ b : Bool, Hid (b = p.needless at_) := ⟨_, rfl⟩
  refine (impl_NeedlessOk p at_ _ _ (V.out.base (Nat.zero_le _)) (by omega)).mono ?_
  rintro e w3 ⟨rfl, hb3⟩
  clear rcA0 rzA0 rlA0
  have A0 := A0.ext hb3
  have V := Lib.hid (V.out.ext hb3)
  have E := ext_trans E hb3
  clear hb3
  rw [← hok.out]
  obtain ⟨rcA0, rzA0⟩ := (A0).rules; have rlA0 := (A0).lt
  go_wp2_with fail
  refine (spec_NeedlessOk p at_ _ _ (V.out.base (Nat.zero_le _)) (by omega)).mono ?_
  rintro e w4 ⟨rfl, hb4⟩
  clear rcA0 rzA0 rlA0
  have A0 := A0.ext hb4
  have V := Lib.hid (V.out.ext hb4)
  have E := ext_trans E hb4
  clear hb4
  rw [← hok.out]
  obtain ⟨rcA0, rzA0⟩ := (A0).rules; have rlA0 := (A0).lt
  go_wp2_with fail
  obtain ⟨P, hP⟩ : ∃ P : Pl, Hid (P = p.cut at_) := ⟨_, rfl⟩
  refine (impl_WithoutBound p at_ _ _ (V.out.base (Nat.zero_le _)) (by omega)).mono ?_
  rintro e w5 ⟨vX, rfl, hX, hb5⟩
  clear rcA0 rzA0 rlA0
  have A0 := A0.ext hb5
  have V := Lib.hid (V.out.ext hb5)
  have E := ext_trans E hb5
  clear hb5
  have X := Lib.hid hX
  clear hX
  rw [← hP.out] at X ⊢
  obtain ⟨aX, cX, rfl, -⟩ := X.out.open
  obtain ⟨rcA0, rzA0⟩ := (A0).rules; have rlA0 := (A0).lt
  cases hc : p.cutOk at_
  · have hof : ok = false := by rw [hok.out, Pl.needless, hc]; rfl
    subst hof
    clear hc
    go_wp2_with fail
    obtain ⟨w6, hw6, A6, hs6, hb6⟩ := one_box w5 #[.int .i64 P.pts, .slice aX P.bs.length cX] 29
    rw [← hw6.out]
    clear rcA0 rzA0 rlA0
    have A0 := A0.ext hb6
    have V := Lib.hid (V.out.ext hb6)
    have X := Lib.hid (X.out.ext hb6)
    have E := ext_trans E hb6
    clear hb6
    obtain ⟨rcA0, rzA0⟩ := (A0).rules; have rlA0 := (A0).lt
    obtain ⟨rcA6, rzA6⟩ := (A6).rules; have rlA6 := (A6).lt
    go_wp2_with fail
    refine (laws_alive _).mono ?_
    rintro e w7 ⟨rfl, hb7⟩
    clear rcA0 rzA0 rlA0 rcA6 rzA6 rlA6
    have A0 := A0.ext hb7
    have A6 := A6.ext hb7
    have V := Lib.hid (V.out.ext hb7)
    have X := Lib.hid (X.out.ext hb7)
    have E := ext_trans E hb7
    clear hb7
    go_wp2_with fail
    go_ret
    exact ⟨rfl, E⟩
  · have HC := Lib.hid hc
    obtain ⟨c1, c2, c3⟩ := cut_parts hc
    obtain ⟨j, hj⟩ := Int.eq_ofNat_of_zero_le c2.1
    have HJ := Lib.hid hj
    have hjl : j < p.bs.length := by omega
    have hPl : P.bs.length ≤ 10 := by rw [hP.out]; have := (cut_good hc).2.1; omega
    clear hc c1 c2 c3 hj
    rw [HJ.out]
    have htwice : Hid (∀ i : Nat, i < p.bs.length → i ≠ j → p.bs.getD i Bd.z = p.bs.getD j Bd.z → ok = true) := by
      intro i hi hij he
      rw [hok.out]
      refine needless_twice HC.out ?_
      have hj2 : at_.toNat = j := by rw [HJ.out]; rfl
      rw [(cut_parts HC.out).2.2, hj2, ← he]
      show p.bs.getD i Bd.z ∈ p.bs.take j ++ p.bs.drop (j+1)
      rw [List.mem_append, List.getD_eq_getElem?_getD, List.getElem?_eq_getElem hi]
      show p.bs[i] ∈ _ ∨ p.bs[i] ∈ _
      rcases Nat.lt_or_ge i j with h | h
      · left; exact List.mem_take_iff_getElem.2 ⟨i, by omega, rfl⟩
      · right; exact List.mem_drop_iff_getElem.2 ⟨i - (j+1), by omega, by congr 1; omega⟩
    go_wp2_with fail
    obtain ⟨w6, hw6, A6, hs6, hb6⟩ := one_box w5 #[.int .i64 P.pts, .slice aX P.bs.length cX] 29
    rw [← hw6.out]
    clear rcA0 rzA0 rlA0
    have A0 := A0.ext hb6
    have V := Lib.hid (V.out.ext hb6)
    have X := Lib.hid (X.out.ext hb6)
    have E := ext_trans E hb6
    clear hb6
    obtain ⟨rcA0, rzA0⟩ := (A0).rules; have rlA0 := (A0).lt
    obtain ⟨rcA6, rzA6⟩ := (A6).rules; have rlA6 := (A6).lt
    go_wp2_with fail
    go_loopg [8, 9] p.bs.length (fun m tt kk wr => ∃ (k : Nat) (tw : Bool), k ≤ p.bs.length ∧ m = p.bs.length - k ∧ kk = .int .i64 k ∧ tt = .bool tw ∧ Hid (tw = true → ok = true) ∧ Below w6.heap.size w6 wr)
    case atStart => exact ⟨0, false, by omega, by omega, rfl, rfl, (fun h => by cases h), ext_refl _⟩
    case round =>
      clear rcA0 rzA0 rlA0 rcA6 rzA6 rlA6
      obtain ⟨k, tw, hk, hgk, rfl, rfl, Htw, hb⟩ := hrel
      have Hk := Lib.hid hgk
      clear hgk
      have A1 := A0.ext hb
      obtain ⟨rc1, rz1⟩ := (A1).rules; have rl1 := (A1).lt
      by_cases hlk : k < p.bs.length
      · obtain ⟨g1, ha1, _, hg1, _, d0, d1, d2⟩ := (V.out.ext hb).at_ hlk
        subst ha1
        obtain ⟨_, ha1, _, _, _, e0, e1, e2⟩ := (V.out.ext hb).at_ hjl
        cases ha1
        have htk := htwice.out k hlk
        obtain ⟨⟨x0, x1, x2⟩, hx⟩ : ∃ b, Hid (b = p.bs.getD k Bd.z) := ⟨_, rfl⟩
        obtain ⟨⟨y0, y1, y2⟩, hy⟩ : ∃ b, Hid (b = p.bs.getD j Bd.z) := ⟨_, rfl⟩
        rw [← hx.out] at d0 d1 d2 htk
        rw [← hy.out] at e0 e1 e2 htk
        dsimp only at d0 d1 d2 e0 e1 e2
        have Htk := Lib.hid htk
        clear htk
        cases tw
        · by_cases hkj : k = j
          · have hd : ((k : Int) != (j : Int)) = false := by simp [hkj]
            clear hkj
            go_wp2_with fail
            go_quiet (fail)
            go_wp2_with fail
            go_roundg (p.bs.length - (k+1))
            case rel => exact ⟨k+1, false, by omega, rfl, by go_num, rfl, (fun h => by cases h), ext_trans hb (ext_drewN5 _ _)⟩
            case measure => have := Hk.out; omega
          · have hd : ((k : Int) != (j : Int)) = true := by simp; omega
            have Hkj := Lib.hid hkj
            clear hkj
            by_cases h0 : x0 = y0
            · subst h0
              by_cases h1 : x1 = y1
              · subst h1
                by_cases h2 : x2 = y2
                · subst h2
                  go_wp2_with fail
                  go_quiet (fail)
                  go_wp2_with fail
                  go_roundg (p.bs.length - (k+1))
                  case rel => exact ⟨k+1, true, by omega, rfl, by go_num, rfl, (fun _ => by first | exact Htk.out Hkj.out rfl | exact Htk.out Hkj.out trivial | exact Htk.out Hkj.out), ext_trans hb (ext_drewN5 _ _)⟩
                  case measure => have := Hk.out; omega
                · have hq : (x2 == y2) = false := beq_false_of_ne h2
                  have hqd : decide (x2 = y2) = false := decide_eq_false h2
                  clear h2
                  go_wp2_with fail
                  go_quiet (fail)
                  go_wp2_with fail
                  go_roundg (p.bs.length - (k+1))
                  case rel => exact ⟨k+1, false, by omega, rfl, by go_num, rfl, (fun h => by cases h), ext_trans hb (ext_drewN5 _ _)⟩
                  case measure => have := Hk.out; omega
              · have hq : (x1 == y1) = false := beq_false_of_ne h1
                have hqd : decide (x1 = y1) = false := decide_eq_false h1
                clear h1
                go_wp2_with fail
                go_quiet (fail)
                go_wp2_with fail
                go_roundg (p.bs.length - (k+1))
                case rel => exact ⟨k+1, false, by omega, rfl, by go_num, rfl, (fun h => by cases h), ext_trans hb (ext_drewN5 _ _)⟩
                case measure => have := Hk.out; omega
            · have hq : (x0 == y0) = false := beq_false_of_ne h0
              have hqd : decide (x0 = y0) = false := decide_eq_false h0
              clear h0
              go_wp2_with fail
              go_quiet (fail)
              go_wp2_with fail
              go_roundg (p.bs.length - (k+1))
              case rel => exact ⟨k+1, false, by omega, rfl, by go_num, rfl, (fun h => by cases h), ext_trans hb (ext_drewN5 _ _)⟩
              case measure => have := Hk.out; omega
        · skip
          go_wp2_with fail
          go_quiet (fail)
          go_wp2_with fail
          go_roundg (p.bs.length - (k+1))
          case rel => exact ⟨k+1, true, by omega, rfl, by go_num, rfl, (fun _ => by first | exact Htw.out rfl | exact Htw.out trivial), ext_trans hb (ext_drewN5 _ _)⟩
          case measure => have := Hk.out; omega
      · have hkn : k = p.bs.length := by omega
        have hkn2 := Lib.hid hkn
        clear hkn
        obtain ⟨g1, ha1, _, hg1, _, e0, e1, e2⟩ := (V.out.ext hb).at_ hjl
        subst ha1
        have A7 := A6.ext hb
        have VR := Lib.hid (V.out.ext hb)
        have XR := Lib.hid (X.out.ext hb)
        have E1 := ext_trans E hb
        obtain ⟨⟨y0, y1, y2⟩, hy⟩ : ∃ b, Hid (b = p.bs.getD j Bd.z) := ⟨_, rfl⟩
        rw [← hy.out] at e0 e1 e2
        dsimp only at e0 e1 e2
        have hj2 : Hid (at_.toNat = j) := by rw [HJ.out]; exact Lib.hid rfl
        have HI : Hid (P.implies ⟨p.pts, [⟨y0, y1, y2⟩]⟩ = ok) := by
          have h := needless_alone HC.out
          unfold Pl.alone at h
          rw [hj2.out, ← hy.out, ← hP.out, ← hok.out] at h
          exact h
        have HLo : Hid (p.fits = true → p.tight (j : Int) = false → ok = true) := fun h1 h2 => by rw [hok.out]; exact needless_loose HC.out h1 (by rw [HJ.out]; exact h2)
        go_wp2_with fail
        have hkeep : Hid (∀ wx, Below wr.heap.size wr wx → (fun w' => w'.cell? ⟨w1.heap.size, 0, none⟩ = some (Value.int .i64 p.pts) ∧ w'.cell? ⟨w1.heap.size, 1, none⟩ = some (Value.slice (some ⟨g1, 0, none⟩) p.bs.length cv) ∧ w'.cell? ⟨g1, j * 3, none⟩ = some (Value.int .i64 y0) ∧ w'.cell? ⟨g1, j * 3 + 1, none⟩ = some (Value.int .i64 y1) ∧ w'.cell? ⟨g1, j * 3 + 2, none⟩ = some (Value.int .i64 y2)) wx) := fun wx hx => ⟨(A1.ext hx).cell0 rfl, (A1.ext hx).cell0 rfl, (hx.cell (by exact hg1)).trans e0, (hx.cell (by exact hg1)).trans e1, (hx.cell (by exact hg1)).trans e2⟩
        refine wp_region_held_drew (S := (fun w' => w'.cell? ⟨w1.heap.size, 0, none⟩ = some (Value.int .i64 p.pts) ∧ w'.cell? ⟨w1.heap.size, 1, none⟩ = some (Value.slice (some ⟨g1, 0, none⟩) p.bs.length cv) ∧ w'.cell? ⟨g1, j * 3, none⟩ = some (Value.int .i64 y0) ∧ w'.cell? ⟨g1, j * 3 + 1, none⟩ = some (Value.int .i64 y1) ∧ w'.cell? ⟨g1, j * 3 + 2, none⟩ = some (Value.int .i64 y2))) (by kernel_rfl) ?_ (fun hHeld => ?_)
        · exact hkeep.out _ (ext_drew (ext_refl _))
        obtain ⟨d, hd⟩ : ∃ d, Hid (d = wr.drew) := ⟨_, rfl⟩
        have hx : Below wr.heap.size wr d := by rw [hd.out]; exact ext_drew (ext_refl _)
        rw [← hd.out] at hHeld ⊢
        clear rc1 rz1 rl1 e0 e1 e2
        try simp only [Act.put, List.setIfInBounds_toArray, List.set_cons_zero, List.set_cons_succ]
        refine wpAnyH_take (i := 0) (v := ?_) rfl (by kernel_rfl) (by kernel_rfl) (by kernel_rfl) (fun _ _ _ h => h) (Or.inl ⟨by rfl, fun w' hS' => ?_⟩) (by assumption) ?_
        rotate_left
        · (try dsimp only at hS'); go_simp; (try rw [if_pos (by omega)]); try with_reducible rfl
        try simp only [Act.put, List.getElem_toArray, List.getElem_cons_zero, List.getElem_cons_succ, List.setIfInBounds_toArray, List.set_cons_zero, List.set_cons_succ]
        refine wpAnyH_take (i := 1) (v := ?_) rfl (by kernel_rfl) (by kernel_rfl) (by kernel_rfl) (fun _ _ _ h => h) (Or.inl ⟨by rfl, fun w' hS' => ?_⟩) (by assumption) ?_
        rotate_left
        · (try dsimp only at hS'); go_simp; (try rw [if_pos (by omega)]); try with_reducible rfl
        try simp only [Act.put, List.getElem_toArray, List.getElem_cons_zero, List.getElem_cons_succ, List.setIfInBounds_toArray, List.set_cons_zero, List.set_cons_succ]
        refine wpAnyH_take (i := 2) (v := ?_) rfl (by kernel_rfl) (by kernel_rfl) (by kernel_rfl) (fun _ _ _ h => h) (Or.inl ⟨by rfl, fun w' hS' => ?_⟩) (by assumption) ?_
        rotate_left
        · (try dsimp only at hS'); go_simp; (try rw [if_pos (by omega)]); try with_reducible rfl
        try simp only [Act.put, List.getElem_toArray, List.getElem_cons_zero, List.getElem_cons_succ, List.setIfInBounds_toArray, List.set_cons_zero, List.set_cons_succ]
        refine wpAnyH_take (i := 3) (v := ?_) rfl (by kernel_rfl) (by kernel_rfl) (by kernel_rfl) (fun _ _ _ h => h) (Or.inl ⟨by rfl, fun w' hS' => ?_⟩) (by assumption) ?_
        rotate_left
        · (try dsimp only at hS'); go_simp; (try rw [if_pos (by omega)]); try with_reducible rfl
        try simp only [Act.put, List.getElem_toArray, List.getElem_cons_zero, List.getElem_cons_succ, List.setIfInBounds_toArray, List.set_cons_zero, List.set_cons_succ]
        refine wpAnyH_take (i := 4) (v := ?_) rfl (by kernel_rfl) (by kernel_rfl) (by kernel_rfl) (fun _ _ _ h => h) (Or.inl ⟨by rfl, fun w' hS' => ?_⟩) (by assumption) ?_
        rotate_left
        · (try dsimp only at hS'); go_simp; (try rw [if_pos (by omega)]); try with_reducible rfl
        try simp only [Act.put, List.getElem_toArray, List.getElem_cons_zero, List.getElem_cons_succ, List.setIfInBounds_toArray, List.set_cons_zero, List.set_cons_succ]
        refine wpAnyH_take (i := 5) (v := ?_) rfl (by kernel_rfl) (by kernel_rfl) (by kernel_rfl) (fun _ _ _ h => h) (Or.inl ⟨by rfl, fun w' hS' => ?_⟩) (by assumption) ?_
        rotate_left
        · (try dsimp only at hS'); go_simp; (try rw [if_pos (by omega)]); try with_reducible rfl
        try simp only [Act.put, List.getElem_toArray, List.getElem_cons_zero, List.getElem_cons_succ, List.setIfInBounds_toArray, List.set_cons_zero, List.set_cons_succ]
        refine wpAnyH_take (i := 6) (v := ?_) rfl (by kernel_rfl) (by kernel_rfl) (by kernel_rfl) (fun _ _ _ h => h) (Or.inl ⟨by rfl, fun w' hS' => ?_⟩) (by assumption) ?_
        rotate_left
        · (try dsimp only at hS'); go_simp; (try rw [if_pos (by omega)]); try with_reducible rfl
        try simp only [Act.put, List.getElem_toArray, List.getElem_cons_zero, List.getElem_cons_succ, List.setIfInBounds_toArray, List.set_cons_zero, List.set_cons_succ]
        refine wpAnyH_ready (rs := [7, 9]) (by kernel_rfl) (by simp) ?_
        refine AllReadyH.cons rfl (fun K' hK => ?_) (AllReadyH.cons rfl (fun K' hK => ?_) AllReadyH.nil)
        · refine if_yes (by rfl) ?_
          try simp only [Act.put, List.setIfInBounds_toArray, List.set_cons_zero, List.set_cons_succ]
          go_simp
          obtain ⟨u1, hu1, LL, hs1, hE1⟩ := one_box d #[.int .i64 y0, .int .i64 y1, .int .i64 y2] 40
          rw [← hu1.out]
          have hx := ext_trans hx hE1
          refine hK.out _ _ ?_ (fun hHeld => ?_)
          · exact hkeep.out _ hx
          clear hK K'
          try simp only [Act.put, List.setIfInBounds_toArray, List.set_cons_zero, List.set_cons_succ]
          refine wpAnyH_take (i := 8) (v := ?_) rfl (by kernel_rfl) (by kernel_rfl) (by kernel_rfl) (fun _ _ _ h => h) (Or.inl ⟨by rfl, fun w' hS' => ?_⟩) (by assumption) ?_
          rotate_left
          · (try dsimp only at hS'); go_simp; (try rw [if_pos (by omega)]); try with_reducible rfl
          try simp only [Act.put, List.getElem_toArray, List.getElem_cons_zero, List.getElem_cons_succ, List.setIfInBounds_toArray, List.set_cons_zero, List.set_cons_succ]
          refine wpAnyH_ready (rs := [9]) (by kernel_rfl) (by simp) ?_
          refine AllReadyH.cons rfl (fun K' hK => ?_) AllReadyH.nil
          refine if_yes (by rfl) ?_
          try simp only [Act.put, List.getElem_toArray, List.getElem_cons_zero, List.getElem_cons_succ, List.setIfInBounds_toArray, List.set_cons_zero, List.set_cons_succ]
          go_simp
          obtain ⟨u2, hu2, Bo, hs2, hE2⟩ := one_box u1 #[.int .i64 0, .slice none 0 0] 29
          rw [← hu2.out]
          have hx := ext_trans hx hE2
          have LL := LL.ext hE2
          refine hK.out _ _ ?_ (fun hHeld => ?_)
          · exact hkeep.out _ hx
          clear hK K'
          try simp only [Act.put, List.setIfInBounds_toArray, List.set_cons_zero, List.set_cons_succ]
          have qd := hx.size
          have qr : wr.heap.size ≤ d.heap.size := by rw [hd.out]; exact Nat.le_refl _
          obtain ⟨pa, hpa⟩ : ∃ q, Hid (q = u1.heap.size) := ⟨_, rfl⟩
          obtain ⟨ya, hya⟩ : ∃ q, Hid (q = d.heap.size) := ⟨_, rfl⟩
          have hne : ya ≠ pa := by rw [hpa.out, hya.out]; omega
          have hpw : wr.heap.size ≤ pa := by rw [hpa.out]; omega
          rw [← hpa.out] at Bo ⊢
          rw [← hya.out] at LL ⊢
          obtain ⟨rco, rzo⟩ := (Bo).rules; have rlo := (Bo).lt
          refine wpAnyH_ready (rs := [10]) (by kernel_rfl) (by simp) ?_
          refine AllReadyH.cons rfl (fun K' hK => ?_) AllReadyH.nil
          refine if_yes (by rfl) ?_
          try simp only [Act.put, List.getElem_toArray, List.getElem_cons_zero, List.getElem_cons_succ, List.setIfInBounds_toArray, List.set_cons_zero, List.set_cons_succ]
          go_simp
          have hxf := ext_set (ext_set hx (p := ⟨pa, 0, none⟩) hpw (.int .i64 p.pts)) (p := ⟨pa, 1, none⟩) hpw (.slice (some ⟨ya, 0, none⟩) 1 1)
          have BF := (Bo.set 0 (.int .i64 p.pts)).set 1 (.slice (some ⟨ya, 0, none⟩) 1 1)
          have LF := (LL.far (p := ⟨pa, 0, none⟩) hne (.int .i64 p.pts)).far (p := ⟨pa, 1, none⟩) hne (.slice (some ⟨ya, 0, none⟩) 1 1)
          obtain ⟨wf, hwf⟩ : ∃ wf, Hid (wf = (u2.setCell ⟨pa, 0, none⟩ (.int .i64 p.pts)).setCell ⟨pa, 1, none⟩ (.slice (some ⟨ya, 0, none⟩) 1 1)) := ⟨_, rfl⟩
          rw [← hwf.out] at hxf BF LF ⊢
          have hx := hxf
          have Bo : Box wf pa 29 #[.int .i64 p.pts, .slice (some ⟨ya, 0, none⟩) 1 1] := BF
          have AL : Hid (Bds wf 0 (.slice (some ⟨ya, 0, none⟩) 1 1) [⟨y0, y1, y2⟩]) := Lib.hid ⟨rfl, .inr ⟨ya, 1, _, rfl, Nat.zero_le _, LF, Nat.le_refl _, by unfold maxLen; omega, rfl, rfl⟩⟩
          refine hK.out _ _ ?_ (fun hHeld => ?_)
          · exact hkeep.out _ hx
          clear hK K'
          try simp only [Act.put, List.setIfInBounds_toArray, List.set_cons_zero, List.set_cons_succ]
          refine wpAnyH_done (by kernel_rfl) ?_ _
          try simp only [Act.put, List.setIfInBounds_toArray, List.set_cons_zero, List.set_cons_succ]
          clear rco rzo rlo BF LF LL hxf
          cases tw
          · skip
            have A9 := A1.ext hx
            have B9 := A7.ext hx
            obtain ⟨rc1, rz1⟩ := (A9).rules; have rl1 := (A9).lt
            obtain ⟨rc2, rz2⟩ := (B9).rules; have rl2 := (B9).lt
            obtain ⟨rc3, rz3⟩ := (Bo).rules; have rl3 := (Bo).lt
            go_wp2_with fail
            refine (impl_FitsOk p _ _ ((VR.out.ext hx).base (Nat.zero_le _))).mono ?_
            rintro e v1 ⟨rfl, hbv1⟩
            clear rc1 rz1 rl1 rc2 rz2 rl2 rc3 rz3 rl3 A9 B9
            have hx := ext_trans hx hbv1
            have Bo := Bo.ext hbv1
            have AL := Lib.hid (AL.out.ext hbv1)
            have A9 := A1.ext hx
            have B9 := A7.ext hx
            obtain ⟨rc1, rz1⟩ := (A9).rules; have rl1 := (A9).lt
            obtain ⟨rc2, rz2⟩ := (B9).rules; have rl2 := (B9).lt
            obtain ⟨rc3, rz3⟩ := (Bo).rules; have rl3 := (Bo).lt
            cases hfp : p.fits
            · clear hfp HLo
              go_wp2_with fail
              refine (impl_ImpliesOk P ⟨p.pts, [⟨y0, y1, y2⟩]⟩ _ _ _ ((XR.out.ext hx).base (Nat.zero_le _)) (AL.out.base (Nat.zero_le _))).mono ?_
              rintro e v9 ⟨rfl, hb9⟩
              rw [HI.out]
              go_wp2_with fail
              go_ret
              exact ⟨rfl, ext_trans E1 (ext_trans hx hb9)⟩
            · have HLo := Lib.hid (HLo.out hfp)
              clear hfp
              go_wp2_with fail
              refine (impl_TightOk p (j : Int) _ _ ((VR.out.ext hx).base (Nat.zero_le _)) (by omega)).mono ?_
              rintro e v2 ⟨rfl, hbv2⟩
              clear rc1 rz1 rl1 rc2 rz2 rl2 rc3 rz3 rl3 A9 B9
              have hx := ext_trans hx hbv2
              have Bo := Bo.ext hbv2
              have AL := Lib.hid (AL.out.ext hbv2)
              have A9 := A1.ext hx
              have B9 := A7.ext hx
              obtain ⟨rc1, rz1⟩ := (A9).rules; have rl1 := (A9).lt
              obtain ⟨rc2, rz2⟩ := (B9).rules; have rl2 := (B9).lt
              obtain ⟨rc3, rz3⟩ := (Bo).rules; have rl3 := (Bo).lt
              cases htp : p.tight (j : Int)
              · have hot : ok = true := HLo.out htp
                subst hot
                clear htp HLo
                go_wp2_with fail
                refine (impl_ImpliesOk P ⟨p.pts, [⟨y0, y1, y2⟩]⟩ _ _ _ ((XR.out.ext hx).base (Nat.zero_le _)) (AL.out.base (Nat.zero_le _))).mono ?_
                rintro e v9 ⟨rfl, hb9⟩
                rw [HI.out]
                go_wp2_with fail
                go_ret
                exact ⟨rfl, ext_trans E1 (ext_trans hx hb9)⟩
              · clear htp HLo
                go_wp2_with fail
                refine (impl_ImpliesOk P ⟨p.pts, [⟨y0, y1, y2⟩]⟩ _ _ _ ((XR.out.ext hx).base (Nat.zero_le _)) (AL.out.base (Nat.zero_le _))).mono ?_
                rintro e v9 ⟨rfl, hb9⟩
                rw [HI.out]
                go_wp2_with fail
                go_ret
                exact ⟨rfl, ext_trans E1 (ext_trans hx hb9)⟩
          · have hot : ok = true := by first | exact Htw.out rfl | exact Htw.out trivial
            subst hot
            have A9 := A1.ext hx
            have B9 := A7.ext hx
            obtain ⟨rc1, rz1⟩ := (A9).rules; have rl1 := (A9).lt
            obtain ⟨rc2, rz2⟩ := (B9).rules; have rl2 := (B9).lt
            obtain ⟨rc3, rz3⟩ := (Bo).rules; have rl3 := (Bo).lt
            go_wp2_with fail
            refine (impl_FitsOk p _ _ ((VR.out.ext hx).base (Nat.zero_le _))).mono ?_
            rintro e v1 ⟨rfl, hbv1⟩
            clear rc1 rz1 rl1 rc2 rz2 rl2 rc3 rz3 rl3 A9 B9
            have hx := ext_trans hx hbv1
            have Bo := Bo.ext hbv1
            have AL := Lib.hid (AL.out.ext hbv1)
            have A9 := A1.ext hx
            have B9 := A7.ext hx
            obtain ⟨rc1, rz1⟩ := (A9).rules; have rl1 := (A9).lt
            obtain ⟨rc2, rz2⟩ := (B9).rules; have rl2 := (B9).lt
            obtain ⟨rc3, rz3⟩ := (Bo).rules; have rl3 := (Bo).lt
            cases hfp : p.fits
            · clear hfp HLo
              go_wp2_with fail
              refine (impl_ImpliesOk P ⟨p.pts, [⟨y0, y1, y2⟩]⟩ _ _ _ ((XR.out.ext hx).base (Nat.zero_le _)) (AL.out.base (Nat.zero_le _))).mono ?_
              rintro e v9 ⟨rfl, hb9⟩
              rw [HI.out]
              go_wp2_with fail
              go_ret
              exact ⟨rfl, ext_trans E1 (ext_trans hx hb9)⟩
            · have HLo := Lib.hid (HLo.out hfp)
              clear hfp
              go_wp2_with fail
              refine (impl_TightOk p (j : Int) _ _ ((VR.out.ext hx).base (Nat.zero_le _)) (by omega)).mono ?_
              rintro e v2 ⟨rfl, hbv2⟩
              clear rc1 rz1 rl1 rc2 rz2 rl2 rc3 rz3 rl3 A9 B9
              have hx := ext_trans hx hbv2
              have Bo := Bo.ext hbv2
              have AL := Lib.hid (AL.out.ext hbv2)
              have A9 := A1.ext hx
              have B9 := A7.ext hx
              obtain ⟨rc1, rz1⟩ := (A9).rules; have rl1 := (A9).lt
              obtain ⟨rc2, rz2⟩ := (B9).rules; have rl2 := (B9).lt
              obtain ⟨rc3, rz3⟩ := (Bo).rules; have rl3 := (Bo).lt
              cases htp : p.tight (j : Int)
              · skip
                clear htp HLo
                go_wp2_with fail
                refine (impl_ImpliesOk P ⟨p.pts, [⟨y0, y1, y2⟩]⟩ _ _ _ ((XR.out.ext hx).base (Nat.zero_le _)) (AL.out.base (Nat.zero_le _))).mono ?_
                rintro e v9 ⟨rfl, hb9⟩
                rw [HI.out]
                go_wp2_with fail
                go_ret
                exact ⟨rfl, ext_trans E1 (ext_trans hx hb9)⟩
              · clear htp HLo
                go_wp2_with fail
                refine (impl_ImpliesOk P ⟨p.pts, [⟨y0, y1, y2⟩]⟩ _ _ _ ((XR.out.ext hx).base (Nat.zero_le _)) (AL.out.base (Nat.zero_le _))).mono ?_
                rintro e v9 ⟨rfl, hb9⟩
                rw [HI.out]
                go_wp2_with fail
                go_ret
                exact ⟨rfl, ext_trans E1 (ext_trans hx hb9)⟩
        · refine if_yes (by rfl) ?_
          try simp only [Act.put, List.setIfInBounds_toArray, List.set_cons_zero, List.set_cons_succ]
          go_simp
          obtain ⟨u1, hu1, Bo, hs1, hE1⟩ := one_box d #[.int .i64 0, .slice none 0 0] 29
          rw [← hu1.out]
          have hx := ext_trans hx hE1
          refine hK.out _ _ ?_ (fun hHeld => ?_)
          · exact hkeep.out _ hx
          clear hK K'
          try simp only [Act.put, List.setIfInBounds_toArray, List.set_cons_zero, List.set_cons_succ]
          refine wpAnyH_ready (rs := [7]) (by kernel_rfl) (by simp) ?_
          refine AllReadyH.cons rfl (fun K' hK => ?_) AllReadyH.nil
          refine if_yes (by rfl) ?_
          try simp only [Act.put, List.getElem_toArray, List.getElem_cons_zero, List.getElem_cons_succ, List.setIfInBounds_toArray, List.set_cons_zero, List.set_cons_succ]
          go_simp
          obtain ⟨u2, hu2, LL, hs2, hE2⟩ := one_box u1 #[.int .i64 y0, .int .i64 y1, .int .i64 y2] 40
          rw [← hu2.out]
          have hx := ext_trans hx hE2
          have Bo := Bo.ext hE2
          refine hK.out _ _ ?_ (fun hHeld => ?_)
          · exact hkeep.out _ hx
          clear hK K'
          try simp only [Act.put, List.setIfInBounds_toArray, List.set_cons_zero, List.set_cons_succ]
          refine wpAnyH_take (i := 8) (v := ?_) rfl (by kernel_rfl) (by kernel_rfl) (by kernel_rfl) (fun _ _ _ h => h) (Or.inl ⟨by rfl, fun w' hS' => ?_⟩) (by assumption) ?_
          rotate_left
          · (try dsimp only at hS'); go_simp; (try rw [if_pos (by omega)]); try with_reducible rfl
          try simp only [Act.put, List.getElem_toArray, List.getElem_cons_zero, List.getElem_cons_succ, List.setIfInBounds_toArray, List.set_cons_zero, List.set_cons_succ]
          have qd := hx.size
          have qr : wr.heap.size ≤ d.heap.size := by rw [hd.out]; exact Nat.le_refl _
          obtain ⟨pa, hpa⟩ : ∃ q, Hid (q = d.heap.size) := ⟨_, rfl⟩
          obtain ⟨ya, hya⟩ : ∃ q, Hid (q = u1.heap.size) := ⟨_, rfl⟩
          have hne : ya ≠ pa := by rw [hpa.out, hya.out]; omega
          have hpw : wr.heap.size ≤ pa := by rw [hpa.out]; omega
          rw [← hpa.out] at Bo ⊢
          rw [← hya.out] at LL ⊢
          obtain ⟨rco, rzo⟩ := (Bo).rules; have rlo := (Bo).lt
          refine wpAnyH_ready (rs := [10]) (by kernel_rfl) (by simp) ?_
          refine AllReadyH.cons rfl (fun K' hK => ?_) AllReadyH.nil
          refine if_yes (by rfl) ?_
          try simp only [Act.put, List.getElem_toArray, List.getElem_cons_zero, List.getElem_cons_succ, List.setIfInBounds_toArray, List.set_cons_zero, List.set_cons_succ]
          go_simp
          have hxf := ext_set (ext_set hx (p := ⟨pa, 0, none⟩) hpw (.int .i64 p.pts)) (p := ⟨pa, 1, none⟩) hpw (.slice (some ⟨ya, 0, none⟩) 1 1)
          have BF := (Bo.set 0 (.int .i64 p.pts)).set 1 (.slice (some ⟨ya, 0, none⟩) 1 1)
          have LF := (LL.far (p := ⟨pa, 0, none⟩) hne (.int .i64 p.pts)).far (p := ⟨pa, 1, none⟩) hne (.slice (some ⟨ya, 0, none⟩) 1 1)
          obtain ⟨wf, hwf⟩ : ∃ wf, Hid (wf = (u2.setCell ⟨pa, 0, none⟩ (.int .i64 p.pts)).setCell ⟨pa, 1, none⟩ (.slice (some ⟨ya, 0, none⟩) 1 1)) := ⟨_, rfl⟩
          rw [← hwf.out] at hxf BF LF ⊢
          have hx := hxf
          have Bo : Box wf pa 29 #[.int .i64 p.pts, .slice (some ⟨ya, 0, none⟩) 1 1] := BF
          have AL : Hid (Bds wf 0 (.slice (some ⟨ya, 0, none⟩) 1 1) [⟨y0, y1, y2⟩]) := Lib.hid ⟨rfl, .inr ⟨ya, 1, _, rfl, Nat.zero_le _, LF, Nat.le_refl _, by unfold maxLen; omega, rfl, rfl⟩⟩
          refine hK.out _ _ ?_ (fun hHeld => ?_)
          · exact hkeep.out _ hx
          clear hK K'
          try simp only [Act.put, List.setIfInBounds_toArray, List.set_cons_zero, List.set_cons_succ]
          refine wpAnyH_done (by kernel_rfl) ?_ _
          try simp only [Act.put, List.setIfInBounds_toArray, List.set_cons_zero, List.set_cons_succ]
          clear rco rzo rlo BF LF LL hxf
          cases tw
          · skip
            have A9 := A1.ext hx
            have B9 := A7.ext hx
            obtain ⟨rc1, rz1⟩ := (A9).rules; have rl1 := (A9).lt
            obtain ⟨rc2, rz2⟩ := (B9).rules; have rl2 := (B9).lt
            obtain ⟨rc3, rz3⟩ := (Bo).rules; have rl3 := (Bo).lt
            go_wp2_with fail
            refine (impl_FitsOk p _ _ ((VR.out.ext hx).base (Nat.zero_le _))).mono ?_
            rintro e v1 ⟨rfl, hbv1⟩
            clear rc1 rz1 rl1 rc2 rz2 rl2 rc3 rz3 rl3 A9 B9
            have hx := ext_trans hx hbv1
            have Bo := Bo.ext hbv1
            have AL := Lib.hid (AL.out.ext hbv1)
            have A9 := A1.ext hx
            have B9 := A7.ext hx
            obtain ⟨rc1, rz1⟩ := (A9).rules; have rl1 := (A9).lt
            obtain ⟨rc2, rz2⟩ := (B9).rules; have rl2 := (B9).lt
            obtain ⟨rc3, rz3⟩ := (Bo).rules; have rl3 := (Bo).lt
            cases hfp : p.fits
            · clear hfp HLo
              go_wp2_with fail
              refine (impl_ImpliesOk P ⟨p.pts, [⟨y0, y1, y2⟩]⟩ _ _ _ ((XR.out.ext hx).base (Nat.zero_le _)) (AL.out.base (Nat.zero_le _))).mono ?_
              rintro e v9 ⟨rfl, hb9⟩
              rw [HI.out]
              go_wp2_with fail
              go_ret
              exact ⟨rfl, ext_trans E1 (ext_trans hx hb9)⟩
            · have HLo := Lib.hid (HLo.out hfp)
              clear hfp
              go_wp2_with fail
              refine (impl_TightOk p (j : Int) _ _ ((VR.out.ext hx).base (Nat.zero_le _)) (by omega)).mono ?_
              rintro e v2 ⟨rfl, hbv2⟩
              clear rc1 rz1 rl1 rc2 rz2 rl2 rc3 rz3 rl3 A9 B9
              have hx := ext_trans hx hbv2
              have Bo := Bo.ext hbv2
              have AL := Lib.hid (AL.out.ext hbv2)
              have A9 := A1.ext hx
              have B9 := A7.ext hx
              obtain ⟨rc1, rz1⟩ := (A9).rules; have rl1 := (A9).lt
              obtain ⟨rc2, rz2⟩ := (B9).rules; have rl2 := (B9).lt
              obtain ⟨rc3, rz3⟩ := (Bo).rules; have rl3 := (Bo).lt
              cases htp : p.tight (j : Int)
              · have hot : ok = true := HLo.out htp
                subst hot
                clear htp HLo
                go_wp2_with fail
                refine (impl_ImpliesOk P ⟨p.pts, [⟨y0, y1, y2⟩]⟩ _ _ _ ((XR.out.ext hx).base (Nat.zero_le _)) (AL.out.base (Nat.zero_le _))).mono ?_
                rintro e v9 ⟨rfl, hb9⟩
                rw [HI.out]
                go_wp2_with fail
                go_ret
                exact ⟨rfl, ext_trans E1 (ext_trans hx hb9)⟩
              · clear htp HLo
                go_wp2_with fail
                refine (impl_ImpliesOk P ⟨p.pts, [⟨y0, y1, y2⟩]⟩ _ _ _ ((XR.out.ext hx).base (Nat.zero_le _)) (AL.out.base (Nat.zero_le _))).mono ?_
                rintro e v9 ⟨rfl, hb9⟩
                rw [HI.out]
                go_wp2_with fail
                go_ret
                exact ⟨rfl, ext_trans E1 (ext_trans hx hb9)⟩
          · have hot : ok = true := by first | exact Htw.out rfl | exact Htw.out trivial
            subst hot
            have A9 := A1.ext hx
            have B9 := A7.ext hx
            obtain ⟨rc1, rz1⟩ := (A9).rules; have rl1 := (A9).lt
            obtain ⟨rc2, rz2⟩ := (B9).rules; have rl2 := (B9).lt
            obtain ⟨rc3, rz3⟩ := (Bo).rules; have rl3 := (Bo).lt
            go_wp2_with fail
            refine (impl_FitsOk p _ _ ((VR.out.ext hx).base (Nat.zero_le _))).mono ?_
            rintro e v1 ⟨rfl, hbv1⟩
            clear rc1 rz1 rl1 rc2 rz2 rl2 rc3 rz3 rl3 A9 B9
            have hx := ext_trans hx hbv1
            have Bo := Bo.ext hbv1
            have AL := Lib.hid (AL.out.ext hbv1)
            have A9 := A1.ext hx
            have B9 := A7.ext hx
            obtain ⟨rc1, rz1⟩ := (A9).rules; have rl1 := (A9).lt
            obtain ⟨rc2, rz2⟩ := (B9).rules; have rl2 := (B9).lt
            obtain ⟨rc3, rz3⟩ := (Bo).rules; have rl3 := (Bo).lt
            cases hfp : p.fits
            · clear hfp HLo
              go_wp2_with fail
              refine (impl_ImpliesOk P ⟨p.pts, [⟨y0, y1, y2⟩]⟩ _ _ _ ((XR.out.ext hx).base (Nat.zero_le _)) (AL.out.base (Nat.zero_le _))).mono ?_
              rintro e v9 ⟨rfl, hb9⟩
              rw [HI.out]
              go_wp2_with fail
              go_ret
              exact ⟨rfl, ext_trans E1 (ext_trans hx hb9)⟩
            · have HLo := Lib.hid (HLo.out hfp)
              clear hfp
              go_wp2_with fail
              refine (impl_TightOk p (j : Int) _ _ ((VR.out.ext hx).base (Nat.zero_le _)) (by omega)).mono ?_
              rintro e v2 ⟨rfl, hbv2⟩
              clear rc1 rz1 rl1 rc2 rz2 rl2 rc3 rz3 rl3 A9 B9
              have hx := ext_trans hx hbv2
              have Bo := Bo.ext hbv2
              have AL := Lib.hid (AL.out.ext hbv2)
              have A9 := A1.ext hx
              have B9 := A7.ext hx
              obtain ⟨rc1, rz1⟩ := (A9).rules; have rl1 := (A9).lt
              obtain ⟨rc2, rz2⟩ := (B9).rules; have rl2 := (B9).lt
              obtain ⟨rc3, rz3⟩ := (Bo).rules; have rl3 := (Bo).lt
              cases htp : p.tight (j : Int)
              · skip
                clear htp HLo
                go_wp2_with fail
                refine (impl_ImpliesOk P ⟨p.pts, [⟨y0, y1, y2⟩]⟩ _ _ _ ((XR.out.ext hx).base (Nat.zero_le _)) (AL.out.base (Nat.zero_le _))).mono ?_
                rintro e v9 ⟨rfl, hb9⟩
                rw [HI.out]
                go_wp2_with fail
                go_ret
                exact ⟨rfl, ext_trans E1 (ext_trans hx hb9)⟩
              · clear htp HLo
                go_wp2_with fail
                refine (impl_ImpliesOk P ⟨p.pts, [⟨y0, y1, y2⟩]⟩ _ _ _ ((XR.out.ext hx).base (Nat.zero_le _)) (AL.out.base (Nat.zero_le _))).mono ?_
                rintro e v9 ⟨rfl, hb9⟩
                rw [HI.out]
                go_wp2_with fail
                go_ret
                exact ⟨rfl, ext_trans E1 (ext_trans hx hb9)⟩
end Go.Proofs.Ytpccfkbpnfbdaaa
