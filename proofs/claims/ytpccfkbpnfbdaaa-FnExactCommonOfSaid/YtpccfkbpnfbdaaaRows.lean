/-
  No cell of these rows narrows 'for every input' (looked for: loops, veiled, ifaces, maps, wideKeys, modest, calm, conditions, laid).
  DERIVED. THE GIVEN ROWS OF THIS SEAT. 6 by the template 'for every input the law returns true; each argument reads behind the call as it read before'; 0 by the template 'total and deterministic' (their statements: YtpccfkbpnfbdaaaTotals.lean).
  GIVEN WITH THE SEED: the statements are not yours to turn. If you find one false, say at which input.
  Laid BY PROGRAM, IN A SANDBOX (cutbox-rows.mjs): the forced cells as the released guide's own fill.sh prints them over the translation fb6606208d07f4cd… (all of the seat's roots in one cut). By AI agents, Wed Nov 11 2026. No macro, syntax, notation, axiom, sorry.
-/
import Derived.Test.YtpccfkbpnfbdaaaChecked
import GoSem.Claim
import GoSem.ClaimJoined
import GoSem.ClaimMapViews
import Derived.JoinedTies
import Derived.KernelRfl
namespace Go.Proofs.Ytpccfkbpnfbdaaa
/- THE CELL 'sum', in the pinned program and in every row, IS THE sha256 OF THE DUMP (.gsa) THAT YtpccfkbpnfbdaaaProg.lean LOADS. Nothing in Lean hashes anything: it is a label: what it is worth is what the hold of that sum in a sandbox is worth. -/
noncomputable def Try.pinned : Pinned := { name := "ytpccfkbpnfbdaaa", sum := "fb6606208d07f4cd5dc84aa664187390599a5bd039959b8888b6ead0fd0ef14e", checked := Try.checked }
namespace Rows
def none {H : Type} : Left H := { results := [], args := [] }

/-- 'laws.FnExactNeedlessOk': WHATEVER THE INPUT: true; the input reads as it did. -/
def fnExactNeedlessOkSpec : ChangeSpec := { name := "fnExactNeedlessOk", fn := fun _ => fun
  | [d1, d2] => { results := [.lit (.bool true)], args := [d1, d2] }
  | _ => none }
def fnExactNeedlessOkRow : OpenClaim := { program := "ytpccfkbpnfbdaaa", sum := "fb6606208d07f4cd5dc84aa664187390599a5bd039959b8888b6ead0fd0ef14e", func := "loop.example/plansandpromises/laws.FnExactNeedlessOk", spec := "fnExactNeedlessOk", unfollowed := true, recurses := true, apart := false }
def FnExactNeedlessOkSaid : Prop := fnExactNeedlessOkRow.holds Try.pinned (OpenSpec.ofChange fnExactNeedlessOkSpec)

/-- ITS FALSE NEIGHBOUR: 'it returns false'. Refute it at one input. -/
def fnExactNeedlessOkWrong : ChangeSpec := { name := "fnExactNeedlessOk", fn := fun _ => fun
  | [d1, d2] => { results := [.lit (.bool false)], args := [d1, d2] }
  | _ => none }
def FnExactNeedlessOkWrongFalsely : Prop := fnExactNeedlessOkRow.holds Try.pinned (OpenSpec.ofChange fnExactNeedlessOkWrong)

/-- 'laws.FnNeedlessOk': WHATEVER THE INPUT: true; the input reads as it did. -/
def fnNeedlessOkSpec : ChangeSpec := { name := "fnNeedlessOk", fn := fun _ => fun
  | [d] => { results := [.lit (.bool true)], args := [d] }
  | _ => none }
def fnNeedlessOkRow : OpenClaim := { program := "ytpccfkbpnfbdaaa", sum := "fb6606208d07f4cd5dc84aa664187390599a5bd039959b8888b6ead0fd0ef14e", func := "loop.example/plansandpromises/laws.FnNeedlessOk", spec := "fnNeedlessOk", unfollowed := true, recurses := true, apart := false }
def FnNeedlessOkSaid : Prop := fnNeedlessOkRow.holds Try.pinned (OpenSpec.ofChange fnNeedlessOkSpec)

/-- ITS FALSE NEIGHBOUR: 'it returns false'. Refute it at one input. -/
def fnNeedlessOkWrong : ChangeSpec := { name := "fnNeedlessOk", fn := fun _ => fun
  | [d] => { results := [.lit (.bool false)], args := [d] }
  | _ => none }
def FnNeedlessOkWrongFalsely : Prop := fnNeedlessOkRow.holds Try.pinned (OpenSpec.ofChange fnNeedlessOkWrong)

/-- 'laws.FnMostOf': WHATEVER THE INPUT: true; the input reads as it did. -/
def fnMostOfSpec : ChangeSpec := { name := "fnMostOf", fn := fun _ => fun
  | [d] => { results := [.lit (.bool true)], args := [d] }
  | _ => none }
def fnMostOfRow : OpenClaim := { program := "ytpccfkbpnfbdaaa", sum := "fb6606208d07f4cd5dc84aa664187390599a5bd039959b8888b6ead0fd0ef14e", func := "loop.example/plansandpromises/laws.FnMostOf", spec := "fnMostOf", unfollowed := true, recurses := true, apart := false }
def FnMostOfSaid : Prop := fnMostOfRow.holds Try.pinned (OpenSpec.ofChange fnMostOfSpec)

/-- ITS FALSE NEIGHBOUR: 'it returns false'. Refute it at one input. -/
def fnMostOfWrong : ChangeSpec := { name := "fnMostOf", fn := fun _ => fun
  | [d] => { results := [.lit (.bool false)], args := [d] }
  | _ => none }
def FnMostOfWrongFalsely : Prop := fnMostOfRow.holds Try.pinned (OpenSpec.ofChange fnMostOfWrong)

/-- 'laws.FnPlanOfTable': WHATEVER THE INPUT: true; the input reads as it did. -/
def fnPlanOfTableSpec : ChangeSpec := { name := "fnPlanOfTable", fn := fun _ => fun
  | [d] => { results := [.lit (.bool true)], args := [d] }
  | _ => none }
def fnPlanOfTableRow : OpenClaim := { program := "ytpccfkbpnfbdaaa", sum := "fb6606208d07f4cd5dc84aa664187390599a5bd039959b8888b6ead0fd0ef14e", func := "loop.example/plansandpromises/laws.FnPlanOfTable", spec := "fnPlanOfTable", unfollowed := true, recurses := true, apart := false }
def FnPlanOfTableSaid : Prop := fnPlanOfTableRow.holds Try.pinned (OpenSpec.ofChange fnPlanOfTableSpec)

/-- ITS FALSE NEIGHBOUR: 'it returns false'. Refute it at one input. -/
def fnPlanOfTableWrong : ChangeSpec := { name := "fnPlanOfTable", fn := fun _ => fun
  | [d] => { results := [.lit (.bool false)], args := [d] }
  | _ => none }
def FnPlanOfTableWrongFalsely : Prop := fnPlanOfTableRow.holds Try.pinned (OpenSpec.ofChange fnPlanOfTableWrong)

/-- 'laws.FnExactPlanOfTable': WHATEVER THE INPUT: true; the input reads as it did. -/
def fnExactPlanOfTableSpec : ChangeSpec := { name := "fnExactPlanOfTable", fn := fun _ => fun
  | [d] => { results := [.lit (.bool true)], args := [d] }
  | _ => none }
def fnExactPlanOfTableRow : OpenClaim := { program := "ytpccfkbpnfbdaaa", sum := "fb6606208d07f4cd5dc84aa664187390599a5bd039959b8888b6ead0fd0ef14e", func := "loop.example/plansandpromises/laws.FnExactPlanOfTable", spec := "fnExactPlanOfTable", unfollowed := true, recurses := true, apart := false }
def FnExactPlanOfTableSaid : Prop := fnExactPlanOfTableRow.holds Try.pinned (OpenSpec.ofChange fnExactPlanOfTableSpec)

/-- ITS FALSE NEIGHBOUR: 'it returns false'. Refute it at one input. -/
def fnExactPlanOfTableWrong : ChangeSpec := { name := "fnExactPlanOfTable", fn := fun _ => fun
  | [d] => { results := [.lit (.bool false)], args := [d] }
  | _ => none }
def FnExactPlanOfTableWrongFalsely : Prop := fnExactPlanOfTableRow.holds Try.pinned (OpenSpec.ofChange fnExactPlanOfTableWrong)

/-- 'laws.FnExactCommonOf': WHATEVER THE INPUT: true; the input reads as it did. -/
def fnExactCommonOfSpec : ChangeSpec := { name := "fnExactCommonOf", fn := fun _ => fun
  | [d1, d2] => { results := [.lit (.bool true)], args := [d1, d2] }
  | _ => none }
def fnExactCommonOfRow : OpenClaim := { program := "ytpccfkbpnfbdaaa", sum := "fb6606208d07f4cd5dc84aa664187390599a5bd039959b8888b6ead0fd0ef14e", func := "loop.example/plansandpromises/laws.FnExactCommonOf", spec := "fnExactCommonOf", unfollowed := true, recurses := true, apart := false }
def FnExactCommonOfSaid : Prop := fnExactCommonOfRow.holds Try.pinned (OpenSpec.ofChange fnExactCommonOfSpec)

/-- ITS FALSE NEIGHBOUR: 'it returns false'. Refute it at one input. -/
def fnExactCommonOfWrong : ChangeSpec := { name := "fnExactCommonOf", fn := fun _ => fun
  | [d1, d2] => { results := [.lit (.bool false)], args := [d1, d2] }
  | _ => none }
def FnExactCommonOfWrongFalsely : Prop := fnExactCommonOfRow.holds Try.pinned (OpenSpec.ofChange fnExactCommonOfWrong)

/- THE SECOND FORM. 'bulk': how many values and letters a reading holds, each counted each time it is reached (what is shared counts as often as it is met; a slice's spare places count too). A statement '..UptoSaid' is the law's where the arguments, and the package variables that the reading takes, are together of bulk at most 1048576: NARROWER than '..Said'. Prove '..Said' where nothing that the law and all that it calls make is longer than what came in: it says more and counts as full. Else prove '..UptoSaid'. A law counts once. -/
mutual
def uptoBulk {H : Type} : DataW H → Nat
  | .lit (.string bytes) => bytes.length + 1
  | .lit _ => 1
  | .nil => 1
  | .ptr d => uptoBulk d + 1
  | .slice elems spare => uptoBulkAll elems + uptoBulkAll spare + 1
  | .agg parts => uptoBulkAll parts + 1
  | .iface _ d => uptoBulk d + 1
  | .map entries => uptoBulkEntries entries + 1
  | .held _ => 1
def uptoBulkAll {H : Type} : List (DataW H) → Nat
  | [] => 0
  | d :: r => uptoBulk d + uptoBulkAll r
def uptoBulkEntries {H : Type} : List (Lit × DataW H) → Nat
  | [] => 0
  | x :: r => uptoBulkEntry x + uptoBulkEntries r
def uptoBulkEntry {H : Type} : Lit × DataW H → Nat
  | (.string bytes, d) => bytes.length + uptoBulk d + 1
  | (_, d) => uptoBulk d + 1
 end
def uptoSmall : (H : Type) → List (DataW H) → Bool := fun _ ds => decide (uptoBulkAll ds ≤ 1048576)
def OpenSpec.upto (s : _root_.Go.ChangeSpec) : _root_.Go.OpenSpec := { _root_.Go.OpenSpec.ofChange s with cond := some uptoSmall }

/-- 'laws.FnExactNeedlessOk', WHERE WHAT IT READS IS OF BULK AT MOST 1048576: true; the input reads as it did. -/
def fnExactNeedlessOkUptoRow : OpenClaim := { program := "ytpccfkbpnfbdaaa", sum := "fb6606208d07f4cd5dc84aa664187390599a5bd039959b8888b6ead0fd0ef14e", func := "loop.example/plansandpromises/laws.FnExactNeedlessOk", spec := "fnExactNeedlessOk", unfollowed := true, recurses := true, apart := false, narrowed := true }
def FnExactNeedlessOkUptoSaid : Prop := fnExactNeedlessOkUptoRow.holds Try.pinned (OpenSpec.upto fnExactNeedlessOkSpec)

/-- 'laws.FnNeedlessOk', WHERE WHAT IT READS IS OF BULK AT MOST 1048576: true; the input reads as it did. -/
def fnNeedlessOkUptoRow : OpenClaim := { program := "ytpccfkbpnfbdaaa", sum := "fb6606208d07f4cd5dc84aa664187390599a5bd039959b8888b6ead0fd0ef14e", func := "loop.example/plansandpromises/laws.FnNeedlessOk", spec := "fnNeedlessOk", unfollowed := true, recurses := true, apart := false, narrowed := true }
def FnNeedlessOkUptoSaid : Prop := fnNeedlessOkUptoRow.holds Try.pinned (OpenSpec.upto fnNeedlessOkSpec)

/-- 'laws.FnMostOf', WHERE WHAT IT READS IS OF BULK AT MOST 1048576: true; the input reads as it did. -/
def fnMostOfUptoRow : OpenClaim := { program := "ytpccfkbpnfbdaaa", sum := "fb6606208d07f4cd5dc84aa664187390599a5bd039959b8888b6ead0fd0ef14e", func := "loop.example/plansandpromises/laws.FnMostOf", spec := "fnMostOf", unfollowed := true, recurses := true, apart := false, narrowed := true }
def FnMostOfUptoSaid : Prop := fnMostOfUptoRow.holds Try.pinned (OpenSpec.upto fnMostOfSpec)

/-- 'laws.FnPlanOfTable', WHERE WHAT IT READS IS OF BULK AT MOST 1048576: true; the input reads as it did. -/
def fnPlanOfTableUptoRow : OpenClaim := { program := "ytpccfkbpnfbdaaa", sum := "fb6606208d07f4cd5dc84aa664187390599a5bd039959b8888b6ead0fd0ef14e", func := "loop.example/plansandpromises/laws.FnPlanOfTable", spec := "fnPlanOfTable", unfollowed := true, recurses := true, apart := false, narrowed := true }
def FnPlanOfTableUptoSaid : Prop := fnPlanOfTableUptoRow.holds Try.pinned (OpenSpec.upto fnPlanOfTableSpec)

/-- 'laws.FnExactPlanOfTable', WHERE WHAT IT READS IS OF BULK AT MOST 1048576: true; the input reads as it did. -/
def fnExactPlanOfTableUptoRow : OpenClaim := { program := "ytpccfkbpnfbdaaa", sum := "fb6606208d07f4cd5dc84aa664187390599a5bd039959b8888b6ead0fd0ef14e", func := "loop.example/plansandpromises/laws.FnExactPlanOfTable", spec := "fnExactPlanOfTable", unfollowed := true, recurses := true, apart := false, narrowed := true }
def FnExactPlanOfTableUptoSaid : Prop := fnExactPlanOfTableUptoRow.holds Try.pinned (OpenSpec.upto fnExactPlanOfTableSpec)

/-- 'laws.FnExactCommonOf', WHERE WHAT IT READS IS OF BULK AT MOST 1048576: true; the input reads as it did. -/
def fnExactCommonOfUptoRow : OpenClaim := { program := "ytpccfkbpnfbdaaa", sum := "fb6606208d07f4cd5dc84aa664187390599a5bd039959b8888b6ead0fd0ef14e", func := "loop.example/plansandpromises/laws.FnExactCommonOf", spec := "fnExactCommonOf", unfollowed := true, recurses := true, apart := false, narrowed := true }
def FnExactCommonOfUptoSaid : Prop := fnExactCommonOfUptoRow.holds Try.pinned (OpenSpec.upto fnExactCommonOfSpec)

end Rows
end Go.Proofs.Ytpccfkbpnfbdaaa
