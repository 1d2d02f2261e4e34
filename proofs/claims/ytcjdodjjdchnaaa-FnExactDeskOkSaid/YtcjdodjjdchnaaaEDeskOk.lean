/- The walk of FnExactDeskOk: it returns true, whatever desk came in. No condition. -/
import Derived.Test.YtcjdodjjdchnaaaDeskOk
namespace Go.Proofs.Ytcjdodjjdchnaaa
open Go.RowKit
set_option linter.unusedVariables false
set_option linter.unusedSimpArgs false
structure DkArg where
  pts : Int
  a : Option Addr
  n : Nat
  cap : Nat
  l : List Bd
  a' : Option Addr
  n' : Nat
  cap' : Nat
  L : List LPl
def DkArg.val (x : DkArg) : Value := .agg #[.int .i64 x.pts, .slice x.a x.n x.cap, .slice x.a' x.n' x.cap']
structure ADk (w : World) (x : DkArg) : Prop where
  h : ABds w x.a x.n x.cap x.l
  h' : APls w x.a' x.n' x.cap' x.L
theorem ADk.ext {w w' : World} {x : DkArg} (h : ADk w x) (hb : Below w.heap.size w w') : ADk w' x := ⟨h.h.ext hb, h.h'.ext hb⟩
def dkOkL (p : Pl) (L : List LPl) : Bool := L.all (fun x => (⟨x.pts, x.l⟩ : Pl).ok) && (p.ok && decide (L.length ≤ 8))
theorem dkOk_eq (p : Pl) (l : List Pv) (L : List LPl) (hlen : l.length = L.length) (h : ∀ i, i < L.length → (l.getD i Pv.z).p = ⟨(L.getD i LPl.z).pts, (L.getD i LPl.z).l⟩) : dkOk p l = dkOkL p L := by
  unfold dkOk dkOkL pvOk
  rw [hlen]
  congr 1
  rw [Bool.eq_iff_iff, List.all_eq_true, List.all_eq_true]
  have gl : ∀ i (hi : i < l.length), l.getD i Pv.z = l[i] := fun i hi => by rw [List.getD_eq_getElem?_getD, List.getElem?_eq_getElem hi]; rfl
  have gL : ∀ i (hi : i < L.length), L.getD i LPl.z = L[i] := fun i hi => by rw [List.getD_eq_getElem?_getD, List.getElem?_eq_getElem hi]; rfl
  constructor
  · intro H x hx
    obtain ⟨i, hi, rfl⟩ := List.getElem_of_mem hx
    have h1 := H l[i] (List.getElem_mem (by omega))
    have h2 := h i hi
    rw [gl i (by omega), gL i hi] at h2
    rw [h2] at h1
    exact h1
  · intro H x hx
    obtain ⟨i, hi, rfl⟩ := List.getElem_of_mem hx
    have h1 := H L[i] (List.getElem_mem (by omega))
    have h2 := h i (by omega)
    rw [gl i hi, gL i (by omega)] at h2
    rw [h2]
    exact h1
set_option maxRecDepth 100000 in
set_option maxHeartbeats 8000000 in
theorem walk_ExactDeskOk (x : DkArg) (w : World) (h : ADk w x) :
    Calls Try.prog 9 #[x.val] w fun e w' => e = .returned (.bool true) ∧ Below w.heap.size w w' := by
  obtain ⟨hb, hp⟩ := h
  obtain ⟨pts, a, n, cap, l, a', n', cap', L⟩ := x
  unfold DkArg.val
  dsimp only at *
  have hmax : n ≤ 9223372036854775807 := by have := hb.2.1; have := hb.2.2.1; omega
  have Hb := Lib.hid hb; have Hp := Lib.hid hp
  have HLl := Lib.hid hp.1
  clear hb hp
  go_enter Try.func9, Try.ntmps9
  go_wp2_with fail
  obtain ⟨W, hW, A0, hs, E⟩ := one_box w #[.int .i64 pts, .slice a n cap, .slice a' n' cap'] 59
  rw [← hW.out]
  obtain ⟨rc0, rz0⟩ := (A0).rules; have rl0 := (A0).lt
  go_wp2_with fail
  refine (laws_szDesk pts a n cap a' n' cap' L _ _ (Hp.out.ext E) (by omega) (by omega) hmax).mono ?_
  rintro e w1 ⟨r, rfl, hr0, hr1, hr2, hb1⟩
  have A0 := A0.ext hb1
  have E := ext_trans E hb1
  clear rc0 rz0 rl0 hb1
  obtain ⟨rc0, rz0⟩ := (A0).rules; have rl0 := (A0).lt
  by_cases hneg : r < 0
  · clear hr2
    go_wp2_with fail
    go_ret
    exact ⟨rfl, E⟩
  obtain ⟨hn, hsm⟩ := hr2 (by omega)
  have hn' := hsm.1
  have HSM := Lib.hid hsm
  clear hr2 hsm
  go_wp2_with fail
  refine (laws_toDesk pts a n cap l a' n' cap' L _ (Hb.out.ext E) hn (Hp.out.ext E) HSM.out).mono ?_
  rintro e w2 ⟨bT, vT, lT, rfl, hbT, hvT, HlT, HqT, hb2⟩
  have A0 := A0.ext hb2
  have E := ext_trans E hb2
  clear rc0 rz0 rl0 hb2
  have BT := Lib.hid hbT; have VT := Lib.hid hvT
  obtain ⟨aT, cT, rfl, -⟩ := hbT.open
  obtain ⟨aT', cT', rfl, -⟩ := hvT.open
  clear hbT hvT
  have HkT := Lib.hid (dkOk_eq ⟨pts, l⟩ lT L HlT.out HqT.out)
  obtain ⟨rc0, rz0⟩ := (A0).rules; have rl0 := (A0).lt
  go_wp2_with fail
  refine (spec_DeskOk ⟨pts, l⟩ _ _ lT _ (BT.out.base (Nat.zero_le _)) (VT.out.base (Nat.zero_le _)) (by have := HlT.out; have := HLl.out; omega)).mono ?_
  rintro e w3 ⟨rfl, hb3⟩
  rw [HkT.out]
  have A0 := A0.ext hb3
  have E := ext_trans E hb3
  clear rc0 rz0 rl0 hb3 BT VT HkT
  obtain ⟨rc0, rz0⟩ := (A0).rules; have rl0 := (A0).lt
  generalize hk : dkOkL ⟨pts, l⟩ L = k
  have Hk := Lib.hid hk
  clear hk
  go_wp2_with fail
  refine (laws_toDesk pts a n cap l a' n' cap' L _ (Hb.out.ext E) hn (Hp.out.ext E) HSM.out).mono ?_
  rintro e w4 ⟨bX, vX, lX, rfl, hbX, hvX, HlX, HqX, hb4⟩
  have A0 := A0.ext hb4
  have E := ext_trans E hb4
  clear rc0 rz0 rl0 hb4
  have BX := Lib.hid hbX; have VX := Lib.hid hvX
  obtain ⟨aX, cX, rfl, -⟩ := hbX.open
  obtain ⟨aX', cX', rfl, -⟩ := hvX.open
  clear hbX hvX
  have HkX := Lib.hid (dkOk_eq ⟨pts, l⟩ lX L HlX.out HqX.out)
  obtain ⟨rc0, rz0⟩ := (A0).rules; have rl0 := (A0).lt
  go_wp2_with fail
  obtain ⟨w5, hw5, X0, hs5, hb5⟩ := one_box w4 #[.int .i64 pts, .slice aX l.length cX, .slice aX' lX.length cX'] 34
  rw [← hw5.out]
  have A0 := A0.ext hb5
  have E := ext_trans E hb5
  have BX := Lib.hid (BX.out.ext hb5); have VX := Lib.hid (VX.out.ext hb5)
  clear rc0 rz0 rl0 hb5
  obtain ⟨rc0, rz0⟩ := (A0).rules; have rl0 := (A0).lt
  obtain ⟨rc1, rz1⟩ := (X0).rules; have rl1 := (X0).lt
  go_wp2_with fail
  refine (impl_DeskOk ⟨pts, l⟩ _ _ lX _ (BX.out.base (Nat.zero_le _)) (VX.out.base (Nat.zero_le _)) (by have := HlX.out; have := HLl.out; omega)).mono ?_
  rintro e w6 ⟨rfl, hb6⟩
  rw [HkX.out, Hk.out]
  have A0 := A0.ext hb6
  have X0 := X0.ext hb6
  have E := ext_trans E hb6
  have BX := Lib.hid (BX.out.ext hb6); have VX := Lib.hid (VX.out.ext hb6)
  clear rc0 rz0 rl0 rc1 rz1 rl1 hb6 HkX
  obtain ⟨rc0, rz0⟩ := (A0).rules; have rl0 := (A0).lt
  obtain ⟨rc1, rz1⟩ := (X0).rules; have rl1 := (X0).lt
  go_wp2_with fail
  go_region_held3 (fun w' => w'.cell? ⟨w.heap.size, 0, none⟩ = some (Value.int .i64 pts) ∧ w'.cell? ⟨w.heap.size, 1, none⟩ = some (Value.slice a n cap) ∧ w'.cell? ⟨w.heap.size, 2, none⟩ = some (Value.slice a' n' cap') ∧ w'.cell? ⟨w4.heap.size, 0, none⟩ = some (Value.int .i64 pts) ∧ w'.cell? ⟨w4.heap.size, 1, none⟩ = some (Value.slice aX l.length cX) ∧ w'.cell? ⟨w4.heap.size, 2, none⟩ = some (Value.slice aX' lX.length cX'))
    (first | exact ⟨A0.cell0 rfl, A0.cell0 rfl, A0.cell0 rfl, X0.cell0 rfl, X0.cell0 rfl, X0.cell0 rfl⟩ | exact ⟨A0a11.cell0 rfl, A0a11.cell0 rfl, A0a11.cell0 rfl, X0a11.cell0 rfl, X0a11.cell0 rfl, X0a11.cell0 rfl⟩ | exact ⟨A0b11.cell0 rfl, A0b11.cell0 rfl, A0b11.cell0 rfl, X0b11.cell0 rfl, X0b11.cell0 rfl, X0b11.cell0 rfl⟩)
    (first | (go_at_call 43
              refine (laws_toDesk pts a n cap l a' n' cap' L _ (Hb.out.ext (ext_trans E (ext_drew (ext_refl w6)))) hn (Hp.out.ext (ext_trans E (ext_drew (ext_refl w6)))) HSM.out).mono ?_
              rintro e wa11 ⟨bY, vY, lY, rfl, hbY, hvY, HlY, HqY, hba11⟩
              obtain ⟨aY, cY, rfl, -⟩ := hbY.open
              obtain ⟨aY', cY', rfl, -⟩ := hvY.open
              have A0a11 := A0.ext (ext_trans (ext_drew (ext_refl w6)) hba11)
              have X0a11 := X0.ext (ext_trans (ext_drew (ext_refl w6)) hba11)
              have BYa11 := Lib.hid hbY
              have VYa11 := Lib.hid hvY
              clear hbY hvY
              have Ha11 := ext_trans (ext_drew (ext_refl w6)) hba11)
           | (go_at_call 44
              refine (laws_eqDesk ⟨pts, l⟩ _ _ _ _ lX lY _ ((BX.out.ext Ha11).base (Nat.zero_le _)) (BYa11.out.base (Nat.zero_le _)) ((VX.out.ext Ha11).base (Nat.zero_le _)) (VYa11.out.base (Nat.zero_le _)) (by rw [HlX.out, HlY.out]) (fun i hi => by rw [HqX.out i (by have := HlX.out; omega), HqY.out i (by have := HlX.out; omega)])).mono ?_
              rintro e wb11 ⟨rfl, hbb11⟩
              have A0b11 := A0.ext (ext_trans Ha11 hbb11)
              have X0b11 := X0.ext (ext_trans Ha11 hbb11)
              have Hb11 := ext_trans Ha11 hbb11))
  go_wp2_with fail
  go_ret
  exact ⟨rfl, ext_trans E Hb11⟩
end Go.Proofs.Ytcjdodjjdchnaaa
