/- The walks of fromTable and PlanOfTable of impl. Conditions: the bounds can be read. -/
import Derived.Test.YtpccfkbpnfbdaaaClosed
import Derived.Test.YtpccfkbpnfbdaaaPlanMk
import Derived.Test.YtpccfkbpnfbdaaaApp
namespace Go.Proofs.Ytpccfkbpnfbdaaa
open Go.RowKit
set_option linter.unusedVariables false
set_option linter.unusedSimpArgs false
/-- the bounds of one row of a table, of the first numbers -/
def tbRow (D : Tbl) (f : Nat) : Nat → List Bd
  | 0 => []
  | t+1 => tbRow D f t ++ (if f ≠ t ∧ D f t ≠ 100000 then [⟨f, t, D f t⟩] else [])
def tbAll (D : Tbl) (n : Nat) : Nat → List Bd
  | 0 => []
  | f+1 => tbAll D n f ++ tbRow D f n
def Pl.ofTab (n : Nat) (D : Tbl) : Pl := ⟨n, tbAll D n n⟩
theorem tbRow_length (D : Tbl) (f : Nat) : ∀ t, (tbRow D f t).length ≤ t
  | 0 => Nat.le_refl _
  | t+1 => by
    have := tbRow_length D f t
    simp only [tbRow, List.length_append]
    split <;> simp <;> omega
theorem tbAll_length (D : Tbl) {n : Nat} (hn : n ≤ 6) : ∀ f, (tbAll D n f).length ≤ f * 6
  | 0 => Nat.le_refl _
  | f+1 => by
    have := tbAll_length D hn f
    have := tbRow_length D f n
    simp only [tbAll, List.length_append]
    omega
theorem tbRow_same {D : Tbl} {f t : Nat} (h : f = t ∨ D f t = 100000) : tbRow D f (t+1) = tbRow D f t := by
  simp only [tbRow]
  rw [if_neg (by rcases h with h | h <;> simp [h]), List.append_nil]
theorem tbRow_more {D : Tbl} {f t : Nat} (h : f ≠ t) (h2 : D f t ≠ 100000) : tbRow D f (t+1) = tbRow D f t ++ [⟨f, t, D f t⟩] := by
  simp only [tbRow]
  rw [if_pos ⟨h, h2⟩]
set_option maxRecDepth 100000 in
set_option maxHeartbeats 4000000 in
theorem impl_fromTable (n : Nat) (D : Tbl) (fv : FuncId) (cp : Array Value) (S : World → Prop) (hS : ∀ w w', S w → Below w.heap.size w w' → S w')
   (hf : ∀ (f t : Nat) w, f < n → t < n → S w → Calls Try.prog fv (#[.int .i64 f, .int .i64 t] ++ cp) w (fun e w' => e = .returned (.int .i64 (D f t)) ∧ Below w.heap.size w w'))
   (hcf : ∀ args w, (callFunc fv args).run Try.prog w = .ok (.enter fv args) w)
   (w : World) (hw : S w) (hn : n ≤ 6) :
    Calls Try.prog 58 #[.int .i64 n, .func (.func fv) #[] cp] w (RetPlanB w (Pl.ofTab n D).told (Pl.ofTab n D).ok) := by
  have Hh := Lib.hid hf
  have HSw : Hid (∀ wr, Below w.heap.size w wr → S wr) := fun wr hb => hS w wr hw hb
  clear hf hS hw
  go_enter Try.func58, Try.ntmps58
  go_wp2_with fail
  obtain ⟨W, hW, R, O, hs, hb⟩ := two_boxes w #[.int .i64 0, .slice none 0 0] #[.int .i64 n, .slice none 0 0] 29 29
  rw [← hW.out]
  have hq : w.heap.size + 2 ≤ W.heap.size := by have := O.lt; omega
  go_loopg [13] n (fun m ii wr => ∃ (i : Nat) (tl : List Bd) (vo : Value), i ≤ n ∧ m = n - i ∧ ii = .int .i64 i ∧ Hid (tl = tbAll D n i) ∧ Box wr (w.heap.size + 1) 29 #[.int .i64 n, vo] ∧ Hid (Bds wr (w.heap.size + 1 + 1) vo tl) ∧ Box wr w.heap.size 29 #[.int .i64 0, .slice none 0 0] ∧ Below w.heap.size w wr ∧ w.heap.size + 2 ≤ wr.heap.size)
  case atStart => exact ⟨0, [], .slice none 0 0, by omega, by omega, rfl, Lib.hid rfl, O, Lib.hid (Bds.nil _ _), R, hb, hq⟩
  case round =>
    clear O R hb hq
    obtain ⟨i, tl, vo, hi, hgk, rfl, htl, O, T, R, hb, hq⟩ := hrel
    have Hi := Lib.hid hgk
    clear hgk
    by_cases hlt : i < n
    · go_wp2_with fail
      go_loopg [17] n (fun m jj wx => ∃ (j : Nat) (tl2 : List Bd) (vo2 : Value), j ≤ n ∧ m = n - j ∧ jj = .int .i64 j ∧ Hid (tl2 = tbAll D n i ++ tbRow D i j) ∧ Box wx (w.heap.size + 1) 29 #[.int .i64 n, vo2] ∧ Hid (Bds wx (w.heap.size + 1 + 1) vo2 tl2) ∧ Box wx w.heap.size 29 #[.int .i64 0, .slice none 0 0] ∧ Below w.heap.size w wx ∧ w.heap.size + 2 ≤ wx.heap.size)
      case atStart => exact ⟨0, tl, vo, by omega, by omega, rfl, Lib.hid (by rw [htl.out]; simp [tbRow]), O, T, R, hb, hq⟩
      case round =>
        clear O T R hb hq htl
        obtain ⟨j, tl2, vo2, hj, hgk, rfl, htl2, O, T, R, hb, hq⟩ := hrel
        have Hj := Lib.hid hgk
        clear hgk
        by_cases hlj : j < n
        · go_wp2_with fail
          refine (Hh.out i j _ hlt hlj (HSw.out _ hb)).mono ?_
          rintro e w3 ⟨rfl, hb3⟩
          have O := O.ext hb3
          have T := Lib.hid (T.out.ext hb3)
          have R := R.ext hb3
          have hq := Nat.le_trans hq hb3.size
          have hb := ext_trans hb hb3
          clear hb3
          obtain ⟨x, hx⟩ : ∃ x, Hid (x = D i j) := ⟨_, rfl⟩
          rw [← hx.out]
          have hlen : tl2.length ≤ 42 := by
            rw [htl2.out, List.length_append]
            have := tbAll_length D hn i
            have := tbRow_length D i j
            omega
          by_cases hij : i = j
          · have hsame : Hid (tbRow D i (j+1) = tbRow D i j) := Lib.hid (tbRow_same (.inl hij))
            have hne : ((i : Int) != (j : Int)) = false := by simp [hij]
            clear hij
            go_wp2_with fail
            go_roundg (n - (j+1))
            case rel => exact ⟨j+1, tl2, vo2, by omega, rfl, by go_num, Lib.hid (by rw [hsame.out]; exact htl2.out), O, T, R, hb, hq⟩
            case measure => have := Hj.out; omega
          · have hne : ((i : Int) != (j : Int)) = true := by simp; omega
            have Hij := Lib.hid hij
            clear hij
            by_cases hxf : x = 100000
            · have hsame : Hid (tbRow D i (j+1) = tbRow D i j) := Lib.hid (tbRow_same (.inr (by rw [← hx.out]; exact hxf)))
              have hxe : (x != 100000) = false := by simp [hxf]
              clear hxf
              go_wp2_with fail
              go_roundg (n - (j+1))
              case rel => exact ⟨j+1, tl2, vo2, by omega, rfl, by go_num, Lib.hid (by rw [hsame.out]; exact htl2.out), O, T, R, hb, hq⟩
              case measure => have := Hj.out; omega
            · have hmore : Hid (tbRow D i (j+1) = tbRow D i j ++ [⟨i, j, x⟩]) := by
                rw [tbRow_more Hij.out (by rw [← hx.out]; exact hxf), ← hx.out]; exact Lib.hid rfl
              have hxe : (x != 100000) = true := by simp [hxf]
              clear hxf
              obtain ⟨ao, co, rfl, -⟩ := T.out.open
              obtain ⟨rc1, rz1⟩ := (O).rules; have rl1 := (O).lt
              go_wp2_with (at_builtin; refine wpl_appB _ rfl (.tmp 32) (.tmp 37) rfl (w.heap.size + 1 + 1) 0 (.slice ao tl2.length co) tl2 rfl (T.out.alloc _) (.slice (some ⟨w3.heap.size, 0, none⟩) 1 1) [⟨i, j, x⟩] rfl ((Bds.lit w3 ⟨i, j, x⟩).base (Nat.zero_le _)) (by simp; omega) (by simp; omega) ?_; intro v9 w9 hv9 hg9; obtain ⟨a9, c9, rfl, -⟩ := hv9.open; have O9 := (O.alloc (.cells #[.int .i64 i, .int .i64 j, .int .i64 x] 40)).grown hg9 (fun e => by have := (T.out.lt _ e.symm).1; omega); have R9 := (R.alloc (.cells #[.int .i64 i, .int .i64 j, .int .i64 x] 40)).grown hg9 (fun e => by have := (T.out.lt _ e.symm).1; omega); have hb9 := ext_grown (ext_alloc hb (.cells #[.int .i64 i, .int .i64 j, .int .i64 x] 40)) hg9 (fun q hq => by have := (T.out.lt q hq).1; omega); have hq9 : w.heap.size + 2 ≤ w9.heap.size := (by have h1 := hg9.size; have h2 : w3.heap.size ≤ (w3.alloc (.cells #[.int .i64 i, .int .i64 j, .int .i64 x] 40)).heap.size := (ext_alloc (ext_refl w3) _).size; omega); clear rc1 rz1 rl1; obtain ⟨rc1, rz1⟩ := O9.rules; have rl1 := O9.lt)
              go_roundg (n - (j+1))
              case rel =>
                have hv := hv9
                rw [List.length_append, List.length_singleton] at hv
                have hvs := Lib.hid (hv.low (p := ⟨w.heap.size + 1, 1, none⟩) (by dsimp only; omega) (.slice a9 (tl2.length + 1) c9))
                refine ⟨j+1, tl2 ++ [(⟨(i : Int), (j : Int), x⟩ : Bd)], .slice a9 (tl2.length + 1) c9, by omega, rfl, by go_num, Lib.hid ?_, O9.set 1 (.slice a9 (tl2.length + 1) c9), hvs, R9.far (by dsimp only; omega) _, ext_set hb9 (by dsimp only; omega) _, by simp [World.setCell]; omega⟩
                rw [hmore.out, ← List.append_assoc, ← htl2.out]
              case measure => have := Hj.out; omega
        · have hjn : j = n := by omega
          have hrow : Hid (tl2 = tbAll D n (i+1)) := by rw [htl2.out, hjn]; exact Lib.hid rfl
          clear hjn htl2
          go_wp2_with fail
          go_roundg (n - (i+1))
          case rel => exact ⟨i+1, tl2, vo2, by omega, rfl, by go_num, hrow, O, T, R, hb, hq⟩
          case measure => have := Hi.out; omega
    · have hin : i = n := by omega
      have hall : Hid (tl = (Pl.ofTab n D).bs) := by rw [htl.out, hin]; exact Lib.hid rfl
      clear hin htl
      obtain ⟨ao, co, rfl, -⟩ := T.out.open
      rw [hall.out] at T O
      have hlen := tbAll_length D hn n
      have hlen2 : Hid ((Pl.ofTab n D).bs.length ≤ 42) := by show (tbAll D n n).length ≤ 42; omega
      clear hlen hall
      obtain ⟨P, hP⟩ : ∃ P, Hid (P = Pl.ofTab n D) := ⟨_, rfl⟩
      have hPp : Hid (P.pts = (n : Int)) := by rw [hP.out]; exact Lib.hid rfl
      rw [← hP.out] at T O hlen2 ⊢
      rw [← hPp.out] at O
      obtain ⟨rc1, rz1⟩ := (O).rules; have rl1 := (O).lt
      obtain ⟨rc2, rz2⟩ := (R).rules; have rl2 := (R).lt
      go_wp2_with fail
      refine (impl_told P _ _ (T.out.base (Nat.zero_le _)) (by have := hlen2.out; omega)).mono ?_
      rintro e w4 ⟨v4, rfl, hv4, hb4⟩
      obtain ⟨a4, c4, rfl, -⟩ := hv4.open
      have V4 := Lib.hid hv4
      have R := R.ext hb4
      have hq4 := Nat.le_trans hq hb4.size
      have hb := ext_trans hb hb4
      clear hv4 hb4 rc1 rz1 rl1 rc2 rz2 rl2
      obtain ⟨rc2, rz2⟩ := (R).rules; have rl2 := (R).lt
      go_wp2_with fail
      refine bodyPost_ret (v := .tuple #[.agg #[.int .i64 P.told.pts, .slice a4 P.told.bs.length c4], .bool P.ok]) (by simp [results, Try.results58, go_sem, *]) rfl ?_
      rw [← hP.out]
      refine ⟨_, rfl, ?_, ext_set (ext_set hb (Nat.le_refl _) _) (Nat.le_refl _) _⟩
      have h1 := V4.out.low (p := ⟨w.heap.size, 0, none⟩) (by dsimp only; omega) (.int .i64 P.told.pts)
      have h2 := h1.low (p := ⟨w.heap.size, 1, none⟩) (by dsimp only; omega) (.slice a4 P.told.bs.length c4)
      exact h2.base (by omega)
end Go.Proofs.Ytpccfkbpnfbdaaa
