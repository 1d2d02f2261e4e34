/-
  No cell of these rows narrows 'for every input' (looked for: loops, veiled, ifaces, maps, wideKeys, modest, calm, conditions, laid).
  DERIVED. THE GIVEN ROWS OF THIS SEAT. 8 by the template 'for every input the law returns true; each argument reads behind the call as it read before'; 0 by the template 'total and deterministic' (their statements: YtlcmhcfnmohgmaaTotals.lean).
  GIVEN WITH THE SEED: the statements are not yours to turn. If you find one false, say at which input.
  Laid BY PROGRAM, IN A SANDBOX (cutbox-rows.mjs): the forced cells as the released guide's own fill.sh prints them over the translation 5c77cd8f2bb5a9ff… (all of the seat's roots in one cut). By AI agents, Wed Nov 11 2026. No macro, syntax, notation, axiom, sorry.
-/
import Derived.Test.YtlcmhcfnmohgmaaChecked
import GoSem.Claim
import GoSem.ClaimJoined
import GoSem.ClaimMapViews
import Derived.JoinedTies
import Derived.KernelRfl
namespace Go.Proofs.Ytlcmhcfnmohgmaa
/- THE CELL 'sum', in the pinned program and in every row, IS THE sha256 OF THE DUMP (.gsa) THAT YtlcmhcfnmohgmaaProg.lean LOADS. Nothing in Lean hashes anything: it is a label: what it is worth is what the hold of that sum in a sandbox is worth. -/
noncomputable def Try.pinned : Pinned := { name := "ytlcmhcfnmohgmaa", sum := "5c77cd8f2bb5a9ff4ffc5976a2d5586f19f946896210950932e420d28d3d1cad", checked := Try.checked }
namespace Rows
def none {H : Type} : Left H := { results := [], args := [] }

/-- 'laws.FnTableOf': WHATEVER THE INPUT: true; the input reads as it did. -/
def fnTableOfSpec : ChangeSpec := { name := "fnTableOf", fn := fun _ => fun
  | [d] => { results := [.lit (.bool true)], args := [d] }
  | _ => none }
def fnTableOfRow : OpenClaim := { program := "ytlcmhcfnmohgmaa", sum := "5c77cd8f2bb5a9ff4ffc5976a2d5586f19f946896210950932e420d28d3d1cad", func := "loop.example/plansandpromises/laws.FnTableOf", spec := "fnTableOf", unfollowed := true, recurses := true, apart := false }
def FnTableOfSaid : Prop := fnTableOfRow.holds Try.pinned (OpenSpec.ofChange fnTableOfSpec)

/-- ITS FALSE NEIGHBOUR: 'it returns false'. Refute it at one input. -/
def fnTableOfWrong : ChangeSpec := { name := "fnTableOf", fn := fun _ => fun
  | [d] => { results := [.lit (.bool false)], args := [d] }
  | _ => none }
def FnTableOfWrongFalsely : Prop := fnTableOfRow.holds Try.pinned (OpenSpec.ofChange fnTableOfWrong)

/-- 'laws.FnLoweredBy': WHATEVER THE INPUT: true; the input reads as it did. -/
def fnLoweredBySpec : ChangeSpec := { name := "fnLoweredBy", fn := fun _ => fun
  | [d] => { results := [.lit (.bool true)], args := [d] }
  | _ => none }
def fnLoweredByRow : OpenClaim := { program := "ytlcmhcfnmohgmaa", sum := "5c77cd8f2bb5a9ff4ffc5976a2d5586f19f946896210950932e420d28d3d1cad", func := "loop.example/plansandpromises/laws.FnLoweredBy", spec := "fnLoweredBy", unfollowed := true, recurses := true, apart := false }
def FnLoweredBySaid : Prop := fnLoweredByRow.holds Try.pinned (OpenSpec.ofChange fnLoweredBySpec)

/-- ITS FALSE NEIGHBOUR: 'it returns false'. Refute it at one input. -/
def fnLoweredByWrong : ChangeSpec := { name := "fnLoweredBy", fn := fun _ => fun
  | [d] => { results := [.lit (.bool false)], args := [d] }
  | _ => none }
def FnLoweredByWrongFalsely : Prop := fnLoweredByRow.holds Try.pinned (OpenSpec.ofChange fnLoweredByWrong)

/-- 'laws.FnWithoutBound': WHATEVER THE INPUT: true; the input reads as it did. -/
def fnWithoutBoundSpec : ChangeSpec := { name := "fnWithoutBound", fn := fun _ => fun
  | [d] => { results := [.lit (.bool true)], args := [d] }
  | _ => none }
def fnWithoutBoundRow : OpenClaim := { program := "ytlcmhcfnmohgmaa", sum := "5c77cd8f2bb5a9ff4ffc5976a2d5586f19f946896210950932e420d28d3d1cad", func := "loop.example/plansandpromises/laws.FnWithoutBound", spec := "fnWithoutBound", unfollowed := true, recurses := true, apart := false }
def FnWithoutBoundSaid : Prop := fnWithoutBoundRow.holds Try.pinned (OpenSpec.ofChange fnWithoutBoundSpec)

/-- ITS FALSE NEIGHBOUR: 'it returns false'. Refute it at one input. -/
def fnWithoutBoundWrong : ChangeSpec := { name := "fnWithoutBound", fn := fun _ => fun
  | [d] => { results := [.lit (.bool false)], args := [d] }
  | _ => none }
def FnWithoutBoundWrongFalsely : Prop := fnWithoutBoundRow.holds Try.pinned (OpenSpec.ofChange fnWithoutBoundWrong)

/-- 'laws.FnFitsOk': WHATEVER THE INPUT: true; the input reads as it did. -/
def fnFitsOkSpec : ChangeSpec := { name := "fnFitsOk", fn := fun _ => fun
  | [d1, d2] => { results := [.lit (.bool true)], args := [d1, d2] }
  | _ => none }
def fnFitsOkRow : OpenClaim := { program := "ytlcmhcfnmohgmaa", sum := "5c77cd8f2bb5a9ff4ffc5976a2d5586f19f946896210950932e420d28d3d1cad", func := "loop.example/plansandpromises/laws.FnFitsOk", spec := "fnFitsOk", unfollowed := true, recurses := true, apart := false }
def FnFitsOkSaid : Prop := fnFitsOkRow.holds Try.pinned (OpenSpec.ofChange fnFitsOkSpec)

/-- ITS FALSE NEIGHBOUR: 'it returns false'. Refute it at one input. -/
def fnFitsOkWrong : ChangeSpec := { name := "fnFitsOk", fn := fun _ => fun
  | [d1, d2] => { results := [.lit (.bool false)], args := [d1, d2] }
  | _ => none }
def FnFitsOkWrongFalsely : Prop := fnFitsOkRow.holds Try.pinned (OpenSpec.ofChange fnFitsOkWrong)

/-- 'laws.FnStrongPlan': WHATEVER THE INPUT: true; the input reads as it did. -/
def fnStrongPlanSpec : ChangeSpec := { name := "fnStrongPlan", fn := fun _ => fun
  | [d] => { results := [.lit (.bool true)], args := [d] }
  | _ => none }
def fnStrongPlanRow : OpenClaim := { program := "ytlcmhcfnmohgmaa", sum := "5c77cd8f2bb5a9ff4ffc5976a2d5586f19f946896210950932e420d28d3d1cad", func := "loop.example/plansandpromises/laws.FnStrongPlan", spec := "fnStrongPlan", unfollowed := true, recurses := true, apart := false }
def FnStrongPlanSaid : Prop := fnStrongPlanRow.holds Try.pinned (OpenSpec.ofChange fnStrongPlanSpec)

/-- ITS FALSE NEIGHBOUR: 'it returns false'. Refute it at one input. -/
def fnStrongPlanWrong : ChangeSpec := { name := "fnStrongPlan", fn := fun _ => fun
  | [d] => { results := [.lit (.bool false)], args := [d] }
  | _ => none }
def FnStrongPlanWrongFalsely : Prop := fnStrongPlanRow.holds Try.pinned (OpenSpec.ofChange fnStrongPlanWrong)

/-- 'laws.FnRingOk': WHATEVER THE INPUT: true; the input reads as it did. -/
def fnRingOkSpec : ChangeSpec := { name := "fnRingOk", fn := fun _ => fun
  | [d] => { results := [.lit (.bool true)], args := [d] }
  | _ => none }
def fnRingOkRow : OpenClaim := { program := "ytlcmhcfnmohgmaa", sum := "5c77cd8f2bb5a9ff4ffc5976a2d5586f19f946896210950932e420d28d3d1cad", func := "loop.example/plansandpromises/laws.FnRingOk", spec := "fnRingOk", unfollowed := true, recurses := true, apart := false }
def FnRingOkSaid : Prop := fnRingOkRow.holds Try.pinned (OpenSpec.ofChange fnRingOkSpec)

/-- ITS FALSE NEIGHBOUR: 'it returns false'. Refute it at one input. -/
def fnRingOkWrong : ChangeSpec := { name := "fnRingOk", fn := fun _ => fun
  | [d] => { results := [.lit (.bool false)], args := [d] }
  | _ => none }
def FnRingOkWrongFalsely : Prop := fnRingOkRow.holds Try.pinned (OpenSpec.ofChange fnRingOkWrong)

/-- 'laws.FnExactSpareOf': WHATEVER THE INPUT: true; the input reads as it did. -/
def fnExactSpareOfSpec : ChangeSpec := { name := "fnExactSpareOf", fn := fun _ => fun
  | [d] => { results := [.lit (.bool true)], args := [d] }
  | _ => none }
def fnExactSpareOfRow : OpenClaim := { program := "ytlcmhcfnmohgmaa", sum := "5c77cd8f2bb5a9ff4ffc5976a2d5586f19f946896210950932e420d28d3d1cad", func := "loop.example/plansandpromises/laws.FnExactSpareOf", spec := "fnExactSpareOf", unfollowed := true, recurses := true, apart := false }
def FnExactSpareOfSaid : Prop := fnExactSpareOfRow.holds Try.pinned (OpenSpec.ofChange fnExactSpareOfSpec)

/-- ITS FALSE NEIGHBOUR: 'it returns false'. Refute it at one input. -/
def fnExactSpareOfWrong : ChangeSpec := { name := "fnExactSpareOf", fn := fun _ => fun
  | [d] => { results := [.lit (.bool false)], args := [d] }
  | _ => none }
def FnExactSpareOfWrongFalsely : Prop := fnExactSpareOfRow.holds Try.pinned (OpenSpec.ofChange fnExactSpareOfWrong)

/-- 'laws.FnBothPlans': WHATEVER THE INPUT: true; the input reads as it did. -/
def fnBothPlansSpec : ChangeSpec := { name := "fnBothPlans", fn := fun _ => fun
  | [d1, d2] => { results := [.lit (.bool true)], args := [d1, d2] }
  | _ => none }
def fnBothPlansRow : OpenClaim := { program := "ytlcmhcfnmohgmaa", sum := "5c77cd8f2bb5a9ff4ffc5976a2d5586f19f946896210950932e420d28d3d1cad", func := "loop.example/plansandpromises/laws.FnBothPlans", spec := "fnBothPlans", unfollowed := true, recurses := true, apart := false }
def FnBothPlansSaid : Prop := fnBothPlansRow.holds Try.pinned (OpenSpec.ofChange fnBothPlansSpec)

/-- ITS FALSE NEIGHBOUR: 'it returns false'. Refute it at one input. -/
def fnBothPlansWrong : ChangeSpec := { name := "fnBothPlans", fn := fun _ => fun
  | [d1, d2] => { results := [.lit (.bool false)], args := [d1, d2] }
  | _ => none }
def FnBothPlansWrongFalsely : Prop := fnBothPlansRow.holds Try.pinned (OpenSpec.ofChange fnBothPlansWrong)

/- THE SECOND FORM. 'bulk': how many values and letters a reading holds, each counted each time it is reached (what is shared counts as often as it is met; a slice's spare places count too). A statement '..UptoSaid' is the law's where the arguments, and the package variables that the reading takes, are together of bulk at most 1048576: NARROWER than '..Said'. Prove '..Said' where nothing that the law and all that it calls make is longer than what came in: it says more and counts as full. Else prove '..UptoSaid'. A law counts once. -/
mutual
def uptoBulk {H : Type} : DataW H → Nat
  | .lit (.string bytes) => bytes.length + 1
  | .lit _ => 1
  | .nil => 1
  | .ptr d => uptoBulk d + 1
  | .slice elems spare => uptoBulkAll elems + uptoBulkAll spare + 1
  | .agg parts => uptoBulkAll parts + 1
  | .iface _ d => uptoBulk d + 1
  | .map entries => uptoBulkEntries entries + 1
  | .held _ => 1
def uptoBulkAll {H : Type} : List (DataW H) → Nat
  | [] => 0
  | d :: r => uptoBulk d + uptoBulkAll r
def uptoBulkEntries {H : Type} : List (Lit × DataW H) → Nat
  | [] => 0
  | x :: r => uptoBulkEntry x + uptoBulkEntries r
def uptoBulkEntry {H : Type} : Lit × DataW H → Nat
  | (.string bytes, d) => bytes.length + uptoBulk d + 1
  | (_, d) => uptoBulk d + 1
 end
def uptoSmall : (H : Type) → List (DataW H) → Bool := fun _ ds => decide (uptoBulkAll ds ≤ 1048576)
def OpenSpec.upto (s : _root_.Go.ChangeSpec) : _root_.Go.OpenSpec := { _root_.Go.OpenSpec.ofChange s with cond := some uptoSmall }

/-- 'laws.FnTableOf', WHERE WHAT IT READS IS OF BULK AT MOST 1048576: true; the input reads as it did. -/
def fnTableOfUptoRow : OpenClaim := { program := "ytlcmhcfnmohgmaa", sum := "5c77cd8f2bb5a9ff4ffc5976a2d5586f19f946896210950932e420d28d3d1cad", func := "loop.example/plansandpromises/laws.FnTableOf", spec := "fnTableOf", unfollowed := true, recurses := true, apart := false, narrowed := true }
def FnTableOfUptoSaid : Prop := fnTableOfUptoRow.holds Try.pinned (OpenSpec.upto fnTableOfSpec)

/-- 'laws.FnLoweredBy', WHERE WHAT IT READS IS OF BULK AT MOST 1048576: true; the input reads as it did. -/
def fnLoweredByUptoRow : OpenClaim := { program := "ytlcmhcfnmohgmaa", sum := "5c77cd8f2bb5a9ff4ffc5976a2d5586f19f946896210950932e420d28d3d1cad", func := "loop.example/plansandpromises/laws.FnLoweredBy", spec := "fnLoweredBy", unfollowed := true, recurses := true, apart := false, narrowed := true }
def FnLoweredByUptoSaid : Prop := fnLoweredByUptoRow.holds Try.pinned (OpenSpec.upto fnLoweredBySpec)

/-- 'laws.FnWithoutBound', WHERE WHAT IT READS IS OF BULK AT MOST 1048576: true; the input reads as it did. -/
def fnWithoutBoundUptoRow : OpenClaim := { program := "ytlcmhcfnmohgmaa", sum := "5c77cd8f2bb5a9ff4ffc5976a2d5586f19f946896210950932e420d28d3d1cad", func := "loop.example/plansandpromises/laws.FnWithoutBound", spec := "fnWithoutBound", unfollowed := true, recurses := true, apart := false, narrowed := true }
def FnWithoutBoundUptoSaid : Prop := fnWithoutBoundUptoRow.holds Try.pinned (OpenSpec.upto fnWithoutBoundSpec)

/-- 'laws.FnFitsOk', WHERE WHAT IT READS IS OF BULK AT MOST 1048576: true; the input reads as it did. -/
def fnFitsOkUptoRow : OpenClaim := { program := "ytlcmhcfnmohgmaa", sum := "5c77cd8f2bb5a9ff4ffc5976a2d5586f19f946896210950932e420d28d3d1cad", func := "loop.example/plansandpromises/laws.FnFitsOk", spec := "fnFitsOk", unfollowed := true, recurses := true, apart := false, narrowed := true }
def FnFitsOkUptoSaid : Prop := fnFitsOkUptoRow.holds Try.pinned (OpenSpec.upto fnFitsOkSpec)

/-- 'laws.FnStrongPlan', WHERE WHAT IT READS IS OF BULK AT MOST 1048576: true; the input reads as it did. -/
def fnStrongPlanUptoRow : OpenClaim := { program := "ytlcmhcfnmohgmaa", sum := "5c77cd8f2bb5a9ff4ffc5976a2d5586f19f946896210950932e420d28d3d1cad", func := "loop.example/plansandpromises/laws.FnStrongPlan", spec := "fnStrongPlan", unfollowed := true, recurses := true, apart := false, narrowed := true }
def FnStrongPlanUptoSaid : Prop := fnStrongPlanUptoRow.holds Try.pinned (OpenSpec.upto fnStrongPlanSpec)

/-- 'laws.FnRingOk', WHERE WHAT IT READS IS OF BULK AT MOST 1048576: true; the input reads as it did. -/
def fnRingOkUptoRow : OpenClaim := { program := "ytlcmhcfnmohgmaa", sum := "5c77cd8f2bb5a9ff4ffc5976a2d5586f19f946896210950932e420d28d3d1cad", func := "loop.example/plansandpromises/laws.FnRingOk", spec := "fnRingOk", unfollowed := true, recurses := true, apart := false, narrowed := true }
def FnRingOkUptoSaid : Prop := fnRingOkUptoRow.holds Try.pinned (OpenSpec.upto fnRingOkSpec)

/-- 'laws.FnExactSpareOf', WHERE WHAT IT READS IS OF BULK AT MOST 1048576: true; the input reads as it did. -/
def fnExactSpareOfUptoRow : OpenClaim := { program := "ytlcmhcfnmohgmaa", sum := "5c77cd8f2bb5a9ff4ffc5976a2d5586f19f946896210950932e420d28d3d1cad", func := "loop.example/plansandpromises/laws.FnExactSpareOf", spec := "fnExactSpareOf", unfollowed := true, recurses := true, apart := false, narrowed := true }
def FnExactSpareOfUptoSaid : Prop := fnExactSpareOfUptoRow.holds Try.pinned (OpenSpec.upto fnExactSpareOfSpec)

/-- 'laws.FnBothPlans', WHERE WHAT IT READS IS OF BULK AT MOST 1048576: true; the input reads as it did. -/
def fnBothPlansUptoRow : OpenClaim := { program := "ytlcmhcfnmohgmaa", sum := "5c77cd8f2bb5a9ff4ffc5976a2d5586f19f946896210950932e420d28d3d1cad", func := "loop.example/plansandpromises/laws.FnBothPlans", spec := "fnBothPlans", unfollowed := true, recurses := true, apart := false, narrowed := true }
def FnBothPlansUptoSaid : Prop := fnBothPlansUptoRow.holds Try.pinned (OpenSpec.upto fnBothPlansSpec)

end Rows
end Go.Proofs.Ytlcmhcfnmohgmaa
