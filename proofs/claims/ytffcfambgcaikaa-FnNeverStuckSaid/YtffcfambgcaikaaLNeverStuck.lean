/- The walk of FnNeverStuck: it returns true, whatever code came in. Condition: the bytes of the code can be read. -/
import Derived.Test.YtffcfambgcaikaaLater
import Derived.Test.YtffcfambgcaikaaWaitI
import Derived.Test.YtffcfambgcaikaaVerdI
import Derived.Test.YtffcfambgcaikaaSame
namespace Go.Proofs.Ytffcfambgcaikaa
open Go.RowKit
set_option linter.unusedVariables false
set_option linter.unusedSimpArgs false
theorem stuck_fact {p : Pl} {l : List Hp} {now : Int} (h : p.verdict l now = 1) (hlate : now ≤ 1400) : ∃ (b : Nat) (T : Int), 1 ≤ b ∧ (b : Int) < p.pts ∧ p.pts ≤ 6 ∧ now ≤ T ∧ T ≤ now + 600 ∧ T ≤ p.waitU l ∧ p.waitU l ≤ 2000 ∧ 0 ≤ now ∧ (p.verdict (l ++ [⟨b, T⟩]) T = 0 ∨ p.verdict (l ++ [⟨b, T⟩]) T = 1) := by
  obtain ⟨b, T, h1, h2, h3, h4, h5, h6⟩ := stuck_law h hlate
  have hin := (verdict_in.2.2.2.1 h).1
  obtain ⟨q1, q2, q3, -⟩ := plok_in (fits_ok (heard_iff.1 hin.1).1).1
  have h0 := last_in hin.1
  refine ⟨b, T, h1, by omega, by omega, h3, h4, h5, ?_, by omega, h6⟩
  unfold Pl.waitU
  split <;> omega
def Blw (w wx : World) : Prop := Below w.heap.size w wx
theorem Blw.ext {w wx wy : World} (h : Blw w wx) (hb : Below wx.heap.size wx wy) : Blw w wy := ext_trans h hb
set_option maxRecDepth 100000 in
set_option maxHeartbeats 8000000 in
theorem walk_NeverStuck (a : Option Addr) (n cap : Nat) (w : World) (h : Byt w w.heap.size a n cap) :
    Calls Try.prog 6 #[.slice a n cap] w fun e w' => e = .returned (.bool true) ∧ Below w.heap.size w w' := by
  have H := Lib.hid h
  obtain ⟨hncap, hcap, -⟩ := id h
  clear h
  by_cases hbig : 1048576 < n
  · go_enter Try.func6, Try.ntmps6
    go_wp2_with fail
    go_ret
    exact ⟨rfl, ext_refl _⟩
  go_enter Try.func6, Try.ntmps6
  go_wp2_with fail
  refine (spec_DrawVerdictOf a n cap w H.out).mono ?_
  rintro e w1 ⟨v1, v2, p, l, now, rfl, hV, hU, hl16, hl6, h0, h7, htm, hnow, hb1⟩
  have E := hb1
  clear hb1
  obtain ⟨a1, c1, rfl, -⟩ := hV.open
  have V := Lib.hid hV
  clear hV
  obtain ⟨a2, c2, rfl, -⟩ := hU.open
  have U := Lib.hid hU
  clear hU
  go_upto_region 4 with fail
  obtain ⟨w2, hw2, A0, hs2, hb2⟩ := one_box w1 #[.int .i64 p.pts, .slice a1 p.bs.length c1] 25
  rw [← hw2.out]
  have V := Lib.hid (V.out.ext hb2)
  have U := Lib.hid (U.out.ext hb2)
  have E := ext_trans E hb2
  clear hb2
  have Htm := Lib.hid htm
  clear htm
  obtain ⟨N, hN⟩ : ∃ N, Hid (N = l.length) := ⟨_, rfl⟩
  rw [← hN.out] at hl6 U ⊢
  have hncl : N ≤ c2 ∧ c2 ≤ 9223372036854775807 := by obtain ⟨_, _, he, h1, h2, -⟩ := U.out.open; cases he; rw [hN.out]; exact ⟨h1, h2⟩
  obtain ⟨rcA0, rzA0⟩ := (A0).rules; have rlA0 := (A0).lt
  by_cases hlate : 1400 < now
  · skip
    go_wp2_with fail
    refine (laws_alive _).mono ?_
    rintro e w3 ⟨rfl, hb3⟩
    clear rcA0 rzA0 rlA0
    have A0 := A0.ext hb3
    have V := Lib.hid (V.out.ext hb3)
    have U := Lib.hid (U.out.ext hb3)
    have E := ext_trans E hb3
    clear hb3
    go_wp2_with fail
    go_ret
    exact ⟨rfl, E⟩
  go_wp2_with fail
  obtain ⟨r, hr⟩ : ∃ r, Hid (r = p.verdict l now) := ⟨_, rfl⟩
  refine (impl_VerdictOf p _ _ l now _ (V.out.base (Nat.zero_le _)) (U.out.base (Nat.zero_le _)) (by rw [← hN.out]; omega)).mono ?_
  rintro e w3 ⟨rfl, hb3⟩
  clear rcA0 rzA0 rlA0
  have A0 := A0.ext hb3
  have V := Lib.hid (V.out.ext hb3)
  have U := Lib.hid (U.out.ext hb3)
  have E := ext_trans E hb3
  clear hb3
  rw [← hr.out]
  obtain ⟨rcA0, rzA0⟩ := (A0).rules; have rlA0 := (A0).lt
  by_cases hr1 : r = 1
  · have hrb : (r != 1) = false := by simp [hr1]
    obtain ⟨b, T, hb1, hbp, hp6, hT0, hT6, hTw, hw2, hn0, hbad⟩ := stuck_fact (hr.out.symm.trans hr1) (by omega)
    have Hbad := Lib.hid hbad
    clear hr1 hbad
    obtain ⟨z, hz⟩ : ∃ z, Hid (z = p.waitU l) := ⟨_, rfl⟩
    rw [← hz.out] at hTw hw2
    go_wp2_with fail
    refine (impl_WaitUntil p _ _ l _ (V.out.base (Nat.zero_le _)) (U.out.base (Nat.zero_le _)) (by rw [← hN.out]; omega)).mono ?_
    rintro e w4 ⟨rfl, hb4⟩
    clear rcA0 rzA0 rlA0
    have A0 := A0.ext hb4
    have V := Lib.hid (V.out.ext hb4)
    have U := Lib.hid (U.out.ext hb4)
    have E := ext_trans E hb4
    clear hb4
    rw [← hz.out]
    go_wp2_with fail
    have hw6 : IntKind.i64.wrap (now + 600) = now + 600 := IntWalk.i64_in _ (by omega)
    go_loopg [7] 700 (fun m vo wr => ∃ i : Nat, m = 700 - i ∧ vo = .int .i64 (now + (i : Int)) ∧ now + (i : Int) ≤ T ∧ Blw w4 wr)
    case atStart => exact ⟨0, by omega, by simp, by simp; omega, ext_refl _⟩
    case round =>
      obtain ⟨i, hgi, rfl, hiT, hb⟩ := hrel
      have Hi := Lib.hid hgi
      clear hgi
      obtain ⟨u, hu⟩ : ∃ u, Hid (u = now + (i : Int)) := ⟨_, rfl⟩
      rw [← hu.out] at hiT ⊢
      have huz : u ≤ z := by omega
      have hu6 : u ≤ now + 600 := by omega
      have hun : now ≤ u := by have := hu.out; omega
      have A0 := A0.ext hb
      have V := Lib.hid (V.out.ext hb)
      have U := Lib.hid (U.out.ext hb)
      have E := ext_trans E hb
      have O := Lib.hid hb
      clear hb
      obtain ⟨rcA0, rzA0⟩ := (A0).rules; have rlA0 := (A0).lt
      go_wp2_with fail
      go_loopg [8] 10 (fun m vo wx => ∃ j : Nat, m = 10 - j ∧ vo = .int .i64 (1 + (j : Int)) ∧ (u = T → 1 + j ≤ b) ∧ 1 + (j : Int) ≤ p.pts ∧ Blw wr wx)
      case atStart => exact ⟨0, by omega, by simp, fun _ => by omega, by omega, ext_refl _⟩
      case round =>
        rename World => wx
        obtain ⟨j, hgj, rfl, hjb, hjp, hb⟩ := hrel
        have Hj := Lib.hid hgj
        have Hjb := Lib.hid hjb
        clear hgj hjb
        obtain ⟨k, hk⟩ : ∃ k : Int, Hid (k = 1 + (j : Int)) := ⟨_, rfl⟩
        rw [← hk.out] at hjp ⊢
        clear rcA0 rzA0 rlA0
        have A0 := A0.ext hb
        have V := Lib.hid (V.out.ext hb)
        have U := Lib.hid (U.out.ext hb)
        have O := Lib.hid (O.out.ext hb)
        have E := ext_trans E hb
        have F := Lib.hid hb
        clear hb
        obtain ⟨rcA0, rzA0⟩ := (A0).rules; have rlA0 := (A0).lt
        have hk0 : 1 ≤ k := by have := hk.out; omega
        by_cases hkp : k < p.pts
        · have HM : Hid ((l ++ [(⟨k, u⟩ : Hp)]).length = N + 1) := by rw [List.length_append, hN.out]; exact Lib.hid rfl
          obtain ⟨v, hv⟩ : ∃ v, Hid (v = p.verdict (l ++ [(⟨k, u⟩ : Hp)]) u) := ⟨_, Lib.hid rfl⟩
          have qx : 0 ≤ wx.heap.size := Nat.zero_le _
          go_upto_region 14 with (at_builtin; first | (refine wpl_appHp _ rfl (.tmp 51) (.tmp 52) rfl wx.heap.size 0 (.slice (some ⟨wx.heap.size, 0, none⟩) 0 0) [] rfl (Hps.ofBox (Box.new _ _ _) (Nat.le_refl _)) (.slice a2 N c2) l rfl ((U.out.base (Nat.zero_le _)).alloc _) (by rw [← hN.out]; simp; omega) (by simp) ?_; intro v9 w9 hv9 hg9; simp only [List.nil_append] at hv9; obtain ⟨a9, c9, hav9, -⟩ := hv9.open; rw [← hN.out] at hav9; subst hav9; have hb9 : Below wx.heap.size wx w9 := ext_grown (ext_alloc (ext_refl _) _) hg9 (fun q hq => by simp [Value.ownBlock] at hq; omega); have q9 := hb9.size) | (refine wpl_appHp _ rfl (.tmp 53) (.tmp 57) rfl wx.heap.size 0 (.slice a9 N c9) l rfl (hv9.alloc _) (.slice (some ⟨w9.heap.size, 0, none⟩) 1 1) [⟨k, u⟩] rfl ((Hps.lit w9 ⟨k, u⟩).base (Nat.zero_le _)) (by rw [← hN.out]; simp; omega) (by simp; omega) ?_; intro v10 w10 hv10 hg10; obtain ⟨a10, c10, hav10, -⟩ := hv10.open; rw [HM.out] at hav10; subst hav10))
          have hb10 : Below wx.heap.size wx w10 := ext_grown (ext_alloc hb9 _) hg10 (fun q hq => (hv9.lt q hq).1)
          have M := Lib.hid hv10
          clear rcA0 rzA0 rlA0
          have A0 := A0.ext hb10
          have V := Lib.hid (V.out.ext hb10)
          have U := Lib.hid (U.out.ext hb10)
          have O := Lib.hid (O.out.ext hb10)
          have F := Lib.hid (F.out.ext hb10)
          have E := ext_trans E hb10
          clear hb10 hb9 hg10 hg9 hv10 hv9
          obtain ⟨rcA0, rzA0⟩ := (A0).rules; have rlA0 := (A0).lt
          go_wp2_with fail
          refine (impl_VerdictOf p _ _ (l ++ [⟨k, u⟩]) u _ (V.out.base (Nat.zero_le _)) (M.out.base (Nat.zero_le _)) (by rw [HM.out]; omega)).mono ?_
          rintro e w5 ⟨rfl, hb5⟩
          clear rcA0 rzA0 rlA0
          have A0 := A0.ext hb5
          have V := Lib.hid (V.out.ext hb5)
          have U := Lib.hid (U.out.ext hb5)
          have O := Lib.hid (O.out.ext hb5)
          have F := Lib.hid (F.out.ext hb5)
          have M := Lib.hid (M.out.ext hb5)
          have E := ext_trans E hb5
          clear hb5
          rw [← hv.out]
          by_cases hv1 : v = 1
          · have hvb : (v == 1) = true := by simp [hv1]
            clear hv1
            go_wp2_with fail
            go_ret
            exact ⟨rfl, E⟩
          have hvb1 : (v == 1) = false := by simp [hv1]
          by_cases hv0 : v = 0
          · have hvb : (v == 0) = true := by simp [hv0]
            clear hv1 hv0
            go_wp2_with fail
            go_ret
            exact ⟨rfl, E⟩
          have hvb0 : (v == 0) = false := by simp [hv0]
          have hnx : u = T → 1 + (j + 1) ≤ b := fun e => by
            have h1 := Hjb.out e
            rcases Nat.lt_or_ge (1 + j) b with h | h
            · omega
            · exfalso
              have hkb : k = (b : Int) := by have := hk.out; omega
              have := Hbad.out
              rw [← e, ← hkb, ← hv.out] at this
              rcases this with h | h
              · exact hv0 h
              · exact hv1 h
          have Hnx := Lib.hid hnx
          clear hv1 hv0 hnx
          have hkw : IntKind.i64.wrap (k + 1) = k + 1 := IntWalk.i64_in _ (by omega)
          go_wp2_with fail
          go_roundg (10 - (j+1))
          case rel => exact ⟨j+1, rfl, by rw [hk.out]; go_num, Hnx.out, by have := hk.out; omega, F.out⟩
          case measure => have := hk.out; have := Hj.out; omega
        · have huT : u ≠ T := fun e => by have := Hjb.out e; have := hk.out; omega
          have huw : IntKind.i64.wrap (u + 1) = u + 1 := IntWalk.i64_in _ (by omega)
          go_wp2_with fail
          go_roundg (700 - (i+1))
          case rel => exact ⟨i+1, rfl, by rw [hu.out]; go_num, by have := hu.out; omega, O.out⟩
          case measure => have := hu.out; have := Hi.out; omega
  have hrb : (r != 1) = true := by simp [hr1]
  clear hr1
  go_wp2_with fail
  refine (laws_alive _).mono ?_
  rintro e w4 ⟨rfl, hb4⟩
  clear rcA0 rzA0 rlA0
  have A0 := A0.ext hb4
  have V := Lib.hid (V.out.ext hb4)
  have U := Lib.hid (U.out.ext hb4)
  have E := ext_trans E hb4
  clear hb4
  go_wp2_with fail
  go_ret
  exact ⟨rfl, E⟩
end Go.Proofs.Ytffcfambgcaikaa
