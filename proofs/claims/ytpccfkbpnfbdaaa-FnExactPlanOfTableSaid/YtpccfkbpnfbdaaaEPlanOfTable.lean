/- The walk of FnExactPlanOfTable: it returns true, whatever plan came in. No condition. -/
import Derived.Test.YtpccfkbpnfbdaaaLawPlan
import Derived.Test.YtpccfkbpnfbdaaaPlanTab
import Derived.Test.YtpccfkbpnfbdaaaPlanTabS
namespace Go.Proofs.Ytpccfkbpnfbdaaa
open Go.RowKit
set_option linter.unusedVariables false
set_option linter.unusedSimpArgs false
set_option maxRecDepth 100000 in
set_option maxHeartbeats 8000000 in
theorem walk_ExactPlanOfTable (pts0 : Int) (a0 : Option Addr) (n0 cap0 : Nat) (l0 : List Bd) (w : World) (h0 : ABds w a0 n0 cap0 l0) :
    Calls Try.prog 7 #[.agg #[.int .i64 pts0, .slice a0 n0 cap0]] w fun e w' => e = .returned (.bool true) ∧ Below w.heap.size w w' := by
  obtain ⟨hl0, hcap0, hmax0, -⟩ := id h0
  have H0 := Lib.hid h0
  have HL0 := Lib.hid hl0
  clear h0 hl0
  by_cases hbig0 : (1048576 : Int) - n0 < 0
  · have Hs0 := Lib.hid (szR_neg hbig0)
    go_enter Try.func7, Try.ntmps7
    go_wp2_with fail
    obtain ⟨W, hW, A0, -, E⟩ := one_box w #[Value.int .i64 pts0, .slice a0 n0 cap0] 24
    rw [← hW.out]
    refine (laws_szPlan pts0 a0 n0 cap0 _ _ (by omega) (by omega) (by omega)).mono ?_
    rintro e v0 ⟨rfl, hb0⟩
    rw [Hs0.out]
    have E := ext_trans E hb0
    have A0 := A0.ext hb0
    obtain ⟨rcA0, rzA0⟩ := (A0).rules; have rlA0 := (A0).lt
    go_wp2_with fail
    go_ret
    exact ⟨rfl, E⟩
  · have Hs0 := Lib.hid (szR_pos hbig0)
    have hn0 : n0 ≤ 1048576 := by omega
    go_enter Try.func7, Try.ntmps7
    go_wp2_with fail
    obtain ⟨W, hW, A0, -, E⟩ := one_box w #[Value.int .i64 pts0, .slice a0 n0 cap0] 24
    rw [← hW.out]
    refine (laws_szPlan pts0 a0 n0 cap0 _ _ (by omega) (by omega) (by omega)).mono ?_
    rintro e w1 ⟨rfl, hb1⟩
    have A0 := A0.ext hb1
    have E := ext_trans E hb1
    have q1 := hb1.size
    rw [Hs0.out]
    obtain ⟨rcA0, rzA0⟩ := (A0).rules; have rlA0 := (A0).lt
    go_wp2_with fail
    obtain ⟨P', hP'⟩ : ∃ P' : Pl, Hid (P' = (⟨pts0, l0⟩ : Pl).tbl) := ⟨_, rfl⟩
    obtain ⟨b', hb'⟩ : ∃ b' : Bool, Hid (b' = (⟨pts0, l0⟩ : Pl).tblOk) := ⟨_, rfl⟩
    have hlp0 : l0.length ≤ 1048576 := by have := HL0.out; omega
    have hPl : P'.bs.length ≤ 2000000 := by rw [hP'.out]; exact tbl_len2 _
    refine (laws_toPlan pts0 a0 n0 cap0 l0 _ (H0.out.ext (E)) (by omega)).mono ?_
    rintro e w2 ⟨s0, rfl, hs0, hb2⟩
    have A0 := A0.ext hb2
    have E := ext_trans E hb2
    have q2 := hb2.size
    obtain ⟨rcA0, rzA0⟩ := (A0).rules; have rlA0 := (A0).lt
    go_wp2_with fail
    refine (spec_PlanOfTable (⟨pts0, l0⟩ : Pl) s0 _ ((hs0).base (Nat.zero_le _))).mono ?_
    rintro e w3 ⟨sw, rfl, hsw, hb3⟩
    have Br := hsw.lt
    try simp only [World.size_alloc] at Br
    have Bhsw := Lib.hid Br
    clear Br
    have A0 := A0.ext hb3
    have hs0 := hs0.ext hb3
    have E := ext_trans E hb3
    have q3 := hb3.size
    rw [← hP'.out] at hsw ⊢
    rw [← hb'.out]
    obtain ⟨aw, cw, rfl, -⟩ := hsw.open
    clear hs0
    obtain ⟨rcA0, rzA0⟩ := (A0).rules; have rlA0 := (A0).lt
    go_wp2_with fail
    refine (laws_toPlan pts0 a0 n0 cap0 l0 _ (H0.out.ext (ext_alloc E _)) (by omega)).mono ?_
    rintro e w4 ⟨sx0, rfl, hsx0, hb4⟩
    have Br := hsx0.lt
    try simp only [World.size_alloc] at Br
    have Bhsx0 := Lib.hid Br
    clear Br
    have A0 := (A0.alloc _).ext hb4
    have Bw := (Box.new _ _ _).ext hb4
    have hsw := (hsw.alloc _).ext hb4
    have E := ext_trans (ext_alloc E _) hb4
    have q4 := hb4.size
    simp only [World.size_alloc] at q4
    obtain ⟨ax0, cx0, rfl, -⟩ := hsx0.open
    obtain ⟨rcA0, rzA0⟩ := (A0).rules; have rlA0 := (A0).lt
    obtain ⟨rcBw, rzBw⟩ := (Bw).rules; have rlBw := (Bw).lt
    go_wp2_with fail
    refine (impl_PlanOfTable (⟨pts0, l0⟩ : Pl) _ _ ((hsx0.alloc _).base (Nat.zero_le _))).mono ?_
    rintro e w5 ⟨sg, rfl, hsg, hb5⟩
    have Br := hsg.lt
    try simp only [World.size_alloc] at Br
    have Bhsg := Lib.hid Br
    clear Br
    have A0 := (A0.alloc _).ext hb5
    have Bw := (Bw.alloc _).ext hb5
    have X0 := (Box.new _ _ _).ext hb5
    have hsw := (hsw.alloc _).ext hb5
    have hsx0 := (hsx0.alloc _).ext hb5
    have E := ext_trans (ext_alloc E _) hb5
    have q5 := hb5.size
    simp only [World.size_alloc] at q5
    rw [← hP'.out] at hsg ⊢
    rw [← hb'.out]
    obtain ⟨ag, cg, rfl, -⟩ := hsg.open
    obtain ⟨rcA0, rzA0⟩ := (A0).rules; have rlA0 := (A0).lt
    obtain ⟨rcBw, rzBw⟩ := (Bw).rules; have rlBw := (Bw).lt
    obtain ⟨rcX0, rzX0⟩ := (X0).rules; have rlX0 := (X0).lt
    go_wp2_with fail
    refine (laws_eqPlan P' P' _ _ _ ((hsg.alloc _).base (Nat.zero_le _)) ((hsw.alloc _).base (Nat.zero_le _))).mono ?_
    rintro e w6 ⟨rfl, hb6⟩
    have A0 := (A0.alloc _).ext hb6
    have Bw := (Bw.alloc _).ext hb6
    have X0 := (X0.alloc _).ext hb6
    have G := (Box.new _ _ _).ext hb6
    have hsw := (hsw.alloc _).ext hb6
    have hsx0 := (hsx0.alloc _).ext hb6
    have hsg := (hsg.alloc _).ext hb6
    have E := ext_trans (ext_alloc E _) hb6
    have q6 := hb6.size
    simp only [World.size_alloc] at q6
    rw [decide_eq_true rfl]
    obtain ⟨rcA0, rzA0⟩ := (A0).rules; have rlA0 := (A0).lt
    obtain ⟨rcBw, rzBw⟩ := (Bw).rules; have rlBw := (Bw).lt
    obtain ⟨rcX0, rzX0⟩ := (X0).rules; have rlX0 := (X0).lt
    obtain ⟨rcG, rzG⟩ := (G).rules; have rlG := (G).lt
    go_wp2_with fail
    go_region_held3 (fun w' => w'.cell? ⟨w.heap.size, 0, none⟩ = some (Value.int .i64 pts0) ∧ w'.cell? ⟨w.heap.size, 1, none⟩ = some (Value.slice a0 n0 cap0) ∧ w'.cell? ⟨w4.heap.size, 0, none⟩ = some (Value.int .i64 pts0) ∧ w'.cell? ⟨w4.heap.size, 1, none⟩ = some (Value.slice ax0 l0.length cx0))
      (first | exact ⟨A0.cell0 rfl, A0.cell0 rfl, X0.cell0 rfl, X0.cell0 rfl⟩ | exact ⟨A0a.cell0 rfl, A0a.cell0 rfl, X0a.cell0 rfl, X0a.cell0 rfl⟩ | exact ⟨A0b.cell0 rfl, A0b.cell0 rfl, X0b.cell0 rfl, X0b.cell0 rfl⟩)
      (first | (go_at_call 11
                refine (laws_toPlan pts0 a0 n0 cap0 l0 _ (H0.out.ext (ext_drew E)) (by omega)).mono ?_
                rintro e wa7 ⟨sy, rfl, hsy, hba⟩
                have A0a := A0.drew.ext hba
                have X0a := X0.drew.ext hba)
             | (go_at_call 13
                refine (laws_eqPlan (⟨pts0, l0⟩ : Pl) (⟨pts0, l0⟩ : Pl) _ _ _ ((hsx0.drew.ext hba).base (Nat.zero_le _)) (hsy.base (Nat.zero_le _))).mono ?_
                rintro e w7 ⟨rfl, hbb⟩
                have A0b := A0a.ext hbb
                have X0b := X0a.ext hbb
                have hb7 := ext_trans (ext_trans (ext_drew (ext_refl w6)) hba) hbb))
    clear A0a X0a A0b X0b hba hbb hsy
    have A0 := A0.ext hb7
    have Bw := Bw.ext hb7
    have X0 := X0.ext hb7
    have G := G.ext hb7
    have hsw := hsw.ext hb7
    have hsx0 := hsx0.ext hb7
    have hsg := hsg.ext hb7
    have E := ext_trans E hb7
    have q7 := hb7.size
    obtain ⟨rcA0, rzA0⟩ := (A0).rules; have rlA0 := (A0).lt
    obtain ⟨rcBw, rzBw⟩ := (Bw).rules; have rlBw := (Bw).lt
    obtain ⟨rcX0, rzX0⟩ := (X0).rules; have rlX0 := (X0).lt
    obtain ⟨rcG, rzG⟩ := (G).rules; have rlG := (G).lt
    go_wp2_with fail
    refine (laws_markPlan pts0 _ l0 _ (1) _ (hsx0) (by omega) (by omega) (by have := HL0.out; omega)).mono ?_
    rintro e w8 ⟨rfl, hsx0, hg8⟩
    have A0 := A0.grown hg8 (fun e => by have := Bhsx0.out _ e.symm; omega)
    have Bw := Bw.grown hg8 (fun e => by have := Bhsx0.out _ e.symm; omega)
    have X0 := X0.grown hg8 (fun e => by have := Bhsx0.out _ e.symm; omega)
    have G := G.grown hg8 (fun e => by have := Bhsx0.out _ e.symm; omega)
    have hsw := hsw.far hg8 (fun k hk e => by have := Bhsw.out _ hk; have := Bhsx0.out _ e; omega)
    have hsg := hsg.far hg8 (fun k hk e => by have := Bhsg.out _ hk; have := Bhsx0.out _ e; omega)
    have E := ext_grown E hg8 (fun k hk => by have := Bhsx0.out _ hk; omega)
    have q8 := hg8.size
    clear hg8
    obtain ⟨rcA0, rzA0⟩ := (A0).rules; have rlA0 := (A0).lt
    obtain ⟨rcBw, rzBw⟩ := (Bw).rules; have rlBw := (Bw).lt
    obtain ⟨rcX0, rzX0⟩ := (X0).rules; have rlX0 := (X0).lt
    obtain ⟨rcG, rzG⟩ := (G).rules; have rlG := (G).lt
    go_wp2_with fail
    refine (laws_eqPlan P' P' _ _ _ ((hsg).base (Nat.zero_le _)) ((hsw).base (Nat.zero_le _))).mono ?_
    rintro e w9 ⟨rfl, hb9⟩
    have A0 := A0.ext hb9
    have Bw := Bw.ext hb9
    have X0 := X0.ext hb9
    have G := G.ext hb9
    have hsw := hsw.ext hb9
    have hsx0 := hsx0.ext hb9
    have hsg := hsg.ext hb9
    have E := ext_trans E hb9
    have q9 := hb9.size
    rw [decide_eq_true rfl]
    obtain ⟨rcA0, rzA0⟩ := (A0).rules; have rlA0 := (A0).lt
    obtain ⟨rcBw, rzBw⟩ := (Bw).rules; have rlBw := (Bw).lt
    obtain ⟨rcX0, rzX0⟩ := (X0).rules; have rlX0 := (X0).lt
    obtain ⟨rcG, rzG⟩ := (G).rules; have rlG := (G).lt
    go_wp2_with fail
    refine (laws_markPlan P'.pts _ P'.bs _ 1 _ hsg (by omega) (by omega) (by omega)).mono ?_
    rintro e w10 ⟨rfl, hsg, hg10⟩
    have A0 := A0.grown hg10 (fun e => by have := Bhsg.out _ e.symm; omega)
    have Bw := Bw.grown hg10 (fun e => by have := Bhsg.out _ e.symm; omega)
    have X0 := X0.grown hg10 (fun e => by have := Bhsg.out _ e.symm; omega)
    have G := G.grown hg10 (fun e => by have := Bhsg.out _ e.symm; omega)
    have hsw := hsw.far hg10 (fun k hk e => by have := Bhsw.out _ hk; have := Bhsg.out _ e; omega)
    have hsx0 := hsx0.far hg10 (fun k hk e => by have := Bhsx0.out _ hk; have := Bhsg.out _ e; omega)
    have E := ext_grown E hg10 (fun k hk => by have := Bhsg.out _ hk; omega)
    have q10 := hg10.size
    clear hg10
    obtain ⟨rcA0, rzA0⟩ := (A0).rules; have rlA0 := (A0).lt
    obtain ⟨rcBw, rzBw⟩ := (Bw).rules; have rlBw := (Bw).lt
    obtain ⟨rcX0, rzX0⟩ := (X0).rules; have rlX0 := (X0).lt
    obtain ⟨rcG, rzG⟩ := (G).rules; have rlG := (G).lt
    go_wp2_with fail
    refine (laws_heldPlan P'.pts _ P'.bs.length 1 _ (hsg.base (Nat.zero_le _)) (by omega) (by omega) (by omega)).mono ?_
    rintro e w11 ⟨rfl, hb11⟩
    have A0 := A0.ext hb11
    have Bw := Bw.ext hb11
    have X0 := X0.ext hb11
    have G := G.ext hb11
    have hsw := hsw.ext hb11
    have hsx0 := hsx0.ext hb11
    have hsg := hsg.ext hb11
    have E := ext_trans E hb11
    have q11 := hb11.size
    obtain ⟨rcA0, rzA0⟩ := (A0).rules; have rlA0 := (A0).lt
    obtain ⟨rcBw, rzBw⟩ := (Bw).rules; have rlBw := (Bw).lt
    obtain ⟨rcX0, rzX0⟩ := (X0).rules; have rlX0 := (X0).lt
    obtain ⟨rcG, rzG⟩ := (G).rules; have rlG := (G).lt
    go_wp2_with fail
    refine (laws_toPlan pts0 a0 n0 cap0 l0 _ (H0.out.ext (E)) (by omega)).mono ?_
    rintro e w12 ⟨t0, rfl, ht0, hb12⟩
    have A0 := A0.ext hb12
    have Bw := Bw.ext hb12
    have X0 := X0.ext hb12
    have G := G.ext hb12
    have hsw := hsw.ext hb12
    have hsx0 := hsx0.ext hb12
    have hsg := hsg.ext hb12
    have E := ext_trans E hb12
    have q12 := hb12.size
    obtain ⟨rcA0, rzA0⟩ := (A0).rules; have rlA0 := (A0).lt
    obtain ⟨rcBw, rzBw⟩ := (Bw).rules; have rlBw := (Bw).lt
    obtain ⟨rcX0, rzX0⟩ := (X0).rules; have rlX0 := (X0).lt
    obtain ⟨rcG, rzG⟩ := (G).rules; have rlG := (G).lt
    go_wp2_with fail
    refine (impl_PlanOfTable (⟨pts0, l0⟩ : Pl) _ _ ((ht0).base (Nat.zero_le _))).mono ?_
    rintro e w13 ⟨sh, rfl, hsh, hb13⟩
    have A0 := A0.ext hb13
    have Bw := Bw.ext hb13
    have X0 := X0.ext hb13
    have G := G.ext hb13
    have hsw := hsw.ext hb13
    have hsx0 := hsx0.ext hb13
    have hsg := hsg.ext hb13
    have ht0 := ht0.ext hb13
    have E := ext_trans E hb13
    have q13 := hb13.size
    rw [← hP'.out] at hsh ⊢
    rw [← hb'.out]
    obtain ⟨ah, ch, rfl, -⟩ := hsh.open
    clear ht0
    obtain ⟨rcA0, rzA0⟩ := (A0).rules; have rlA0 := (A0).lt
    obtain ⟨rcBw, rzBw⟩ := (Bw).rules; have rlBw := (Bw).lt
    obtain ⟨rcX0, rzX0⟩ := (X0).rules; have rlX0 := (X0).lt
    obtain ⟨rcG, rzG⟩ := (G).rules; have rlG := (G).lt
    go_wp2_with fail
    refine (laws_eqPlan P' P' _ _ _ ((hsh.alloc _).base (Nat.zero_le _)) ((hsw.alloc _).base (Nat.zero_le _))).mono ?_
    rintro e w14 ⟨rfl, hb14⟩
    have A0 := (A0.alloc _).ext hb14
    have Bw := (Bw.alloc _).ext hb14
    have X0 := (X0.alloc _).ext hb14
    have G := (G.alloc _).ext hb14
    have Hh := (Box.new _ _ _).ext hb14
    have hsw := (hsw.alloc _).ext hb14
    have hsx0 := (hsx0.alloc _).ext hb14
    have hsg := (hsg.alloc _).ext hb14
    have hsh := (hsh.alloc _).ext hb14
    have E := ext_trans (ext_alloc E _) hb14
    have q14 := hb14.size
    simp only [World.size_alloc] at q14
    rw [decide_eq_true rfl]
    obtain ⟨rcA0, rzA0⟩ := (A0).rules; have rlA0 := (A0).lt
    obtain ⟨rcBw, rzBw⟩ := (Bw).rules; have rlBw := (Bw).lt
    obtain ⟨rcX0, rzX0⟩ := (X0).rules; have rlX0 := (X0).lt
    obtain ⟨rcG, rzG⟩ := (G).rules; have rlG := (G).lt
    obtain ⟨rcHh, rzHh⟩ := (Hh).rules; have rlHh := (Hh).lt
    go_wp2_with fail
    refine (laws_heldPlan P'.pts _ P'.bs.length 1 _ (hsg.base (Nat.zero_le _)) (by omega) (by omega) (by omega)).mono ?_
    rintro e w15 ⟨rfl, hb15⟩
    have A0 := A0.ext hb15
    have Bw := Bw.ext hb15
    have X0 := X0.ext hb15
    have G := G.ext hb15
    have Hh := Hh.ext hb15
    have hsw := hsw.ext hb15
    have hsx0 := hsx0.ext hb15
    have hsg := hsg.ext hb15
    have hsh := hsh.ext hb15
    have E := ext_trans E hb15
    have q15 := hb15.size
    obtain ⟨rcA0, rzA0⟩ := (A0).rules; have rlA0 := (A0).lt
    obtain ⟨rcBw, rzBw⟩ := (Bw).rules; have rlBw := (Bw).lt
    obtain ⟨rcX0, rzX0⟩ := (X0).rules; have rlX0 := (X0).lt
    obtain ⟨rcG, rzG⟩ := (G).rules; have rlG := (G).lt
    obtain ⟨rcHh, rzHh⟩ := (Hh).rules; have rlHh := (Hh).lt
    go_wp2_with fail
    go_ret
    exact ⟨rfl, E⟩
end Go.Proofs.Ytpccfkbpnfbdaaa
