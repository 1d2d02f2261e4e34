/- The walks of impl.GoesOnOk and impl.StateNew, and of slices.Clone over bounds. Conditions: the bounds and the times can be read. -/
import Derived.Test.YtffcfambgcaikaaStateI
import Derived.Lib.SliceRun
namespace Go.Proofs.Ytffcfambgcaikaa
open Go.RowKit
set_option linter.unusedVariables false
set_option linter.unusedSimpArgs false
def RetB (w : World) (l : List Bd) : Ending → World → Prop := fun e w' => ∃ v, e = .returned v ∧ Bds w' w.heap.size v l ∧ Below w.heap.size w w'
theorem Bds.lit2 (w : World) (b c : Bd) : Bds (w.alloc (.cells #[.int .i64 b.f, .int .i64 b.t, .int .i64 b.m, .int .i64 c.f, .int .i64 c.t, .int .i64 c.m] 78)) w.heap.size (.slice (some ⟨w.heap.size, 0, none⟩) 2 2) [b, c] :=
  World.ownsRow_lit (e := 78) (size := 3) w #[.int .i64 b.f, .int .i64 b.t, .int .i64 b.m, .int .i64 c.f, .int .i64 c.t, .int .i64 c.m] 2 (Nat.le_refl _) (by decide) rfl
set_option maxRecDepth 100000 in
set_option maxHeartbeats 2000000 in
theorem slices_CloneB (v : Value) (l : List Bd) (w : World) (hv : Bds w 0 v l) (hl : l.length ≤ 1000000) :
    Calls Try.prog 84 #[v] w (RetB w l) := by
  have V := Lib.hid hv
  have qT : ∀ (w : World) (a : Option Addr) (n c : Nat), (binOp .eql 23 (.slice a n c) (.slice none 0 0)).run Try.prog w = .ok (.bool a.isNone) w := fun w a n c => Lib.run_eql_slice_nil w _ _ _ _ _ _ _ Try.underlying23
  rcases hv.2 with ⟨rfl, h0⟩ | ⟨g, cap, cur, rfl, hg, hh, hn, hc, hs, hx⟩
  · have hl0 : l = [] := List.eq_nil_of_length_eq_zero h0
    subst hl0
    clear hv V
    go_enter Try.func84, Try.ntmps84
    go_wp2_with fail
    go_ret
    exact ⟨_, rfl, Bds.nil _ _, ext_refl _⟩
  · clear hv hh hx hs
    go_enter Try.func84, Try.ntmps84
    go_wp2_with (at_builtin; refine wpl_appB _ rfl (.tmp 5) (.tmp 6) rfl w.heap.size 0 (.slice (some ⟨w.heap.size, 0, none⟩) 0 0) [] rfl (Bds.ofBox (Box.new _ _ _) (Nat.le_refl _)) (.slice (some ⟨g, 0, none⟩) l.length cap) l rfl (V.out.alloc _) (by simp; omega) (by simp) ?_; intro v9 w9 hv9 hg9)
    go_ret
    exact ⟨_, rfl, hv9, ext_grown (ext_alloc (ext_refl _) _) hg9 (fun q hq => by simp [Value.ownBlock] at hq; omega)⟩
theorem goes_no {p : Pl} {now : Int} {d : List Int} (h : p.stOk now d = false) : p.goes now d = false := by simp [Pl.goes, h]
theorem goes_yes {p : Pl} {now : Int} {d : List Int} {n : Nat} (h : p.stOk now d = true) (hn : n = p.n) : p.goes now d = fitB (ipAll n (tab0 (p.bs ++ stB now d n)) n) n := by
  subst hn
  rw [tab_ip]
  simp only [Pl.goes, h, Bool.true_and, (st_in h).2.1]
set_option maxRecDepth 100000 in
set_option maxHeartbeats 8000000 in
theorem impl_GoesOnOk (p : Pl) (bs dv : Value) (now : Int) (d : List Int) (w : World) (hv : Bds w 0 bs p.bs) (hd : Ints w 0 dv d) :
    Calls Try.prog 50 #[.agg #[.int .i64 p.pts, bs], .agg #[.int .i64 now, dv]] w fun e w' => e = .returned (.bool (p.goes now d)) ∧ Below w.heap.size w w' := by
  have V := Lib.hid hv
  have D := Lib.hid hd
  obtain ⟨a, c, rfl, hn, hc, -⟩ := hv.open
  obtain ⟨ad, cd, rfl, hnd, hcd, -⟩ := hd.open
  clear hv hd
  go_enter Try.func50, Try.ntmps50
  go_wp2_with fail
  obtain ⟨W, hW, A0, B0, hs, E⟩ := two_boxes w #[.int .i64 p.pts, .slice a p.bs.length c] #[.int .i64 now, .slice ad d.length cd] 25 43
  rw [← hW.out]
  obtain ⟨rc0, rz0⟩ := (A0).rules; have rl0 := (A0).lt
  obtain ⟨rc1, rz1⟩ := (B0).rules; have rl1 := (B0).lt
  go_wp2_with fail
  refine (impl_StateOk p _ _ now d _ (V.out.ext E) (D.out.ext E)).mono ?_
  rintro e w1 ⟨rfl, hb1⟩
  clear rc0 rz0 rl0 rc1 rz1 rl1
  have A0 := A0.ext hb1
  have B0 := B0.ext hb1
  have E := ext_trans E hb1
  have q1 := hb1.size
  obtain ⟨rc0, rz0⟩ := (A0).rules; have rl0 := (A0).lt
  obtain ⟨rc1, rz1⟩ := (B0).rules; have rl1 := (B0).lt
  cases hst : p.stOk now d
  · have Hf := Lib.hid (goes_no hst)
    clear hst
    go_wp2_with fail
    go_ret
    exact ⟨by rw [Hf.out]; rfl, E⟩
  obtain ⟨s1, s2, s3, s4, s5⟩ := st_in hst
  have hfo := fits_ok s1
  obtain ⟨p1, p2, p3, p4, -⟩ := plok_in hfo.1
  obtain ⟨n, hnn⟩ : ∃ n, Hid (n = p.n) := ⟨_, rfl⟩
  have Hl : Hid (d.length = n) := by rw [hnn.out]; exact Lib.hid s2
  have Hst := Lib.hid hst
  have Hp : Hid (p.pts = (n : Int)) := by rw [hnn.out]; exact Lib.hid p1
  have Hdv : Hid (∀ k, k < n → -1 ≤ dA d k ∧ dA d k ≤ 2000) := by rw [hnn.out]; exact Lib.hid (fun k hk => by have := s5 k hk; omega)
  rw [Hl.out] at hnd rc1 B0 ⊢
  rw [Hp.out] at rc0 A0 ⊢
  rw [← hnn.out] at p2 p3
  obtain ⟨bl, hbl⟩ : ∃ b, Hid (b = p.bs.length) := ⟨_, rfl⟩
  have hbl16 : bl ≤ 16 := by rw [hbl.out]; exact p4
  rw [← hbl.out] at rc0 A0 hn
  have V1 : Hid (Bds w1 0 (.slice a bl c) p.bs) := by rw [hbl.out]; exact Lib.hid (V.out.ext E)
  have D1 : Hid (Ints w1 0 (.slice ad n cd) d) := by rw [← Hl.out]; exact Lib.hid (D.out.ext E)
  clear hst s1 s2 s4 s5 hfo p1 p4
  go_wp2_with fail
  refine (slices_CloneB _ p.bs _ V1.out (by rw [← hbl.out]; omega)).mono ?_
  rintro e w2 ⟨vb, rfl, hvb, hb2⟩
  clear rc0 rz0 rl0 rc1 rz1 rl1
  have B2 := B0.ext hb2
  have Vb := Lib.hid hvb
  clear hvb
  obtain ⟨rc1, rz1⟩ := (B2).rules; have rl1 := (B2).lt
  go_wp2_with fail
  clear rc1 rz1 rl1
  have Vb : Hid (Bds w2 w1.heap.size vb (p.bs ++ stB now d 0)) := by rw [show p.bs ++ stB now d 0 = p.bs from List.append_nil _]; exact Vb
  go_loopg [5, 18] n (fun m vx kk wr => ∃ k : Nat, k ≤ n ∧ m = n - k ∧ kk = .int .i64 k ∧ Hid (Bds wr w1.heap.size vx (p.bs ++ stB now d k)) ∧ Below w1.heap.size w1 wr)
  case atStart => exact ⟨0, by omega, by omega, rfl, Vb, hb2⟩
  case round =>
    clear Vb hb2 B2
    obtain ⟨k, hk, hgk, rfl, Vb, hb⟩ := hrel
    have Hk := Lib.hid hgk
    clear hgk
    have B2 := B0.ext hb
    have hbs := hb.size
    obtain ⟨av, cv, hav, -⟩ := Vb.out.open
    obtain ⟨L, hL⟩ : ∃ L, Hid (L = (p.bs ++ stB now d k).length) := ⟨_, rfl⟩
    have hL40 : L ≤ 16 + 2 * k := by rw [hL.out, List.length_append, ← hbl.out]; have := stB_length now d k; omega
    rw [← hL.out] at hav
    subst hav
    by_cases hlk : k < n
    · obtain ⟨gx, hag, -, hg, -, cx⟩ := (D1.out.ext hb).at_ (j := k) (by rw [Hl.out]; exact hlk)
      subst hag
      obtain ⟨x, hx⟩ : ∃ x, Hid (x = dA d k) := ⟨_, rfl⟩
      rw [show d.getD k 0 = x from hx.out.symm] at cx
      have hxr := Hdv.out k hlk
      rw [← hx.out] at hxr
      by_cases hx1 : x = -1
      · have hxb : (x == -1) = true := by simp [hx1]
        have hnx : Hid (p.bs ++ stB now d (k+1) = (p.bs ++ stB now d k) ++ [⟨k, 0, -now⟩]) := by rw [stB_succ, if_pos (hx.out.symm.trans hx1), List.append_assoc]; exact Lib.hid rfl
        have hng : IntKind.i64.wrap (-now) = -now := IntWalk.i64_in _ (by omega)
        have Hx1 := Lib.hid hx1
        clear hx1
        obtain ⟨rc1, rz1⟩ := (B2).rules; have rl1 := (B2).lt
        go_wp2_with (at_builtin; refine wpl_appB _ rfl (.tmp 25) (.tmp 31) rfl w1.heap.size 0 (.slice av L cv) (p.bs ++ stB now d k) rfl (Vb.out.alloc _) (.slice (some ⟨wr.heap.size, 0, none⟩) 1 1) [⟨k, 0, -now⟩] rfl ((Bds.lit wr ⟨k, 0, -now⟩).base (Nat.zero_le _)) (by rw [← hL.out]; simp; omega) (by simp; omega) ?_; intro v9 w9 hv9 hg9)
        rw [← hnx.out] at hv9
        go_roundg (n - (k+1))
        case rel => exact ⟨k+1, by omega, rfl, by go_num, Lib.hid hv9, ext_grown (ext_alloc hb _) hg9 (fun q hq => (Vb.out.lt q hq).1)⟩
        case measure => have := Hk.out; omega
      · have hxb : (x == -1) = false := by simp [hx1]
        have hnx : Hid (p.bs ++ stB now d (k+1) = (p.bs ++ stB now d k) ++ [⟨0, k, x⟩, ⟨k, 0, -x⟩]) := by rw [stB_succ, if_neg (fun h => hx1 (hx.out.trans h)), List.append_assoc, hx.out]; exact Lib.hid rfl
        have hng : IntKind.i64.wrap (-x) = -x := IntWalk.i64_in _ (by omega)
        have Hx1 := Lib.hid hx1
        clear hx1
        obtain ⟨rc1, rz1⟩ := (B2).rules; have rl1 := (B2).lt
        go_wp2_with (at_builtin; refine wpl_appB _ rfl (.tmp 33) (.tmp 41) rfl w1.heap.size 0 (.slice av L cv) (p.bs ++ stB now d k) rfl (Vb.out.alloc _) (.slice (some ⟨wr.heap.size, 0, none⟩) 2 2) [⟨0, k, x⟩, ⟨k, 0, -x⟩] rfl ((Bds.lit2 wr ⟨0, k, x⟩ ⟨k, 0, -x⟩).base (Nat.zero_le _)) (by rw [← hL.out]; simp; omega) (by simp; omega) ?_; intro v9 w9 hv9 hg9)
        rw [← hnx.out] at hv9
        go_roundg (n - (k+1))
        case rel => exact ⟨k+1, by omega, rfl, by go_num, Lib.hid hv9, ext_grown (ext_alloc hb _) hg9 (fun q hq => (Vb.out.lt q hq).1)⟩
        case measure => have := Hk.out; omega
    · have hkn : n = k := by omega
      subst hkn
      have A2 := A0.ext hb
      obtain ⟨rc0, rz0⟩ := (A2).rules; have rl0 := (A2).lt
      have hin : Hid (BdsIn n (-2000) 2000 (p.bs ++ stB now d n)) := by have := stB_in Hst.out n (by rw [← hnn.out]; exact Nat.le_refl _); rw [← hnn.out] at this; exact Lib.hid this
      go_wp2_with fail
      refine (impl_start n _ (p.bs ++ stB now d n) _ (Vb.out.base (Nat.zero_le _)) p3 hin.out (by rw [← hL.out]; omega)).mono ?_
      rintro e w3 ⟨O, b, rfl, hO, hP, hb3⟩
      have P := Lib.hid hP
      have E3 := ext_trans E (ext_trans hb hb3)
      clear hP hb3 rc0 rz0 rl0
      go_wp2_with fail
      refine (impl_close n O b (tab0 (p.bs ++ stB now d n)) _ P.out p3 (fun i j _ _ => tab0_in hin.out (by decide) i j)).mono ?_
      rintro e w4 ⟨rfl, -, hb4⟩
      have E4 : Below w.heap.size w w4 := E3.trans (hb4.mono (by omega))
      go_wp2_with fail
      go_ret
      exact ⟨by rw [goes_yes Hst.out hnn.out]; rfl, E4⟩
end Go.Proofs.Ytffcfambgcaikaa
