/-
  No cell of these rows narrows 'for every input' (looked for: loops, veiled, ifaces, maps, wideKeys, modest, calm, conditions, laid).
  DERIVED. THE GIVEN ROWS OF THIS SEAT. 12 by the template 'for every input the law returns true; each argument reads behind the call as it read before'; 0 by the template 'total and deterministic' (their statements: YtcjdodjjdchnaaaTotals.lean).
  GIVEN WITH THE SEED: the statements are not yours to turn. If you find one false, say at which input.
  Laid BY PROGRAM, IN A SANDBOX (cutbox-rows.mjs): the forced cells as the released guide's own fill.sh prints them over the translation f3a6f9d761b20c2d… (all of the seat's roots in one cut). By AI agents, Wed Nov 11 2026. No macro, syntax, notation, axiom, sorry.
-/
import Derived.Test.YtcjdodjjdchnaaaChecked
import GoSem.Claim
import GoSem.ClaimJoined
import GoSem.ClaimMapViews
import Derived.JoinedTies
import Derived.KernelRfl
namespace Go.Proofs.Ytcjdodjjdchnaaa
/- THE CELL 'sum', in the pinned program and in every row, IS THE sha256 OF THE DUMP (.gsa) THAT YtcjdodjjdchnaaaProg.lean LOADS. Nothing in Lean hashes anything: it is a label: what it is worth is what the hold of that sum in a sandbox is worth. -/
noncomputable def Try.pinned : Pinned := { name := "ytcjdodjjdchnaaa", sum := "f3a6f9d761b20c2d9c306cba4a3407825a9cabbf293b0f2e332dea02ba57c4ba", checked := Try.checked }
namespace Rows
def none {H : Type} : Left H := { results := [], args := [] }

/-- 'laws.FnTurnedPlan': WHATEVER THE INPUT: true; the input reads as it did. -/
def fnTurnedPlanSpec : ChangeSpec := { name := "fnTurnedPlan", fn := fun _ => fun
  | [d] => { results := [.lit (.bool true)], args := [d] }
  | _ => none }
def fnTurnedPlanRow : OpenClaim := { program := "ytcjdodjjdchnaaa", sum := "f3a6f9d761b20c2d9c306cba4a3407825a9cabbf293b0f2e332dea02ba57c4ba", func := "loop.example/plansandpromises/laws.FnTurnedPlan", spec := "fnTurnedPlan", unfollowed := true, recurses := true, apart := false }
def FnTurnedPlanSaid : Prop := fnTurnedPlanRow.holds Try.pinned (OpenSpec.ofChange fnTurnedPlanSpec)

/-- ITS FALSE NEIGHBOUR: 'it returns false'. Refute it at one input. -/
def fnTurnedPlanWrong : ChangeSpec := { name := "fnTurnedPlan", fn := fun _ => fun
  | [d] => { results := [.lit (.bool false)], args := [d] }
  | _ => none }
def FnTurnedPlanWrongFalsely : Prop := fnTurnedPlanRow.holds Try.pinned (OpenSpec.ofChange fnTurnedPlanWrong)

/-- 'laws.FnDeskNew': WHATEVER THE INPUT: true; the input reads as it did. -/
def fnDeskNewSpec : ChangeSpec := { name := "fnDeskNew", fn := fun _ => fun
  | [d] => { results := [.lit (.bool true)], args := [d] }
  | _ => none }
def fnDeskNewRow : OpenClaim := { program := "ytcjdodjjdchnaaa", sum := "f3a6f9d761b20c2d9c306cba4a3407825a9cabbf293b0f2e332dea02ba57c4ba", func := "loop.example/plansandpromises/laws.FnDeskNew", spec := "fnDeskNew", unfollowed := true, recurses := true, apart := false }
def FnDeskNewSaid : Prop := fnDeskNewRow.holds Try.pinned (OpenSpec.ofChange fnDeskNewSpec)

/-- ITS FALSE NEIGHBOUR: 'it returns false'. Refute it at one input. -/
def fnDeskNewWrong : ChangeSpec := { name := "fnDeskNew", fn := fun _ => fun
  | [d] => { results := [.lit (.bool false)], args := [d] }
  | _ => none }
def FnDeskNewWrongFalsely : Prop := fnDeskNewRow.holds Try.pinned (OpenSpec.ofChange fnDeskNewWrong)

/-- 'laws.FnWithBound': WHATEVER THE INPUT: true; the input reads as it did. -/
def fnWithBoundSpec : ChangeSpec := { name := "fnWithBound", fn := fun _ => fun
  | [d1, d2] => { results := [.lit (.bool true)], args := [d1, d2] }
  | _ => none }
def fnWithBoundRow : OpenClaim := { program := "ytcjdodjjdchnaaa", sum := "f3a6f9d761b20c2d9c306cba4a3407825a9cabbf293b0f2e332dea02ba57c4ba", func := "loop.example/plansandpromises/laws.FnWithBound", spec := "fnWithBound", unfollowed := true, recurses := true, apart := false }
def FnWithBoundSaid : Prop := fnWithBoundRow.holds Try.pinned (OpenSpec.ofChange fnWithBoundSpec)

/-- ITS FALSE NEIGHBOUR: 'it returns false'. Refute it at one input. -/
def fnWithBoundWrong : ChangeSpec := { name := "fnWithBound", fn := fun _ => fun
  | [d1, d2] => { results := [.lit (.bool false)], args := [d1, d2] }
  | _ => none }
def FnWithBoundWrongFalsely : Prop := fnWithBoundRow.holds Try.pinned (OpenSpec.ofChange fnWithBoundWrong)

/-- 'laws.FnExactTurnedPlan': WHATEVER THE INPUT: true; the input reads as it did. -/
def fnExactTurnedPlanSpec : ChangeSpec := { name := "fnExactTurnedPlan", fn := fun _ => fun
  | [d] => { results := [.lit (.bool true)], args := [d] }
  | _ => none }
def fnExactTurnedPlanRow : OpenClaim := { program := "ytcjdodjjdchnaaa", sum := "f3a6f9d761b20c2d9c306cba4a3407825a9cabbf293b0f2e332dea02ba57c4ba", func := "loop.example/plansandpromises/laws.FnExactTurnedPlan", spec := "fnExactTurnedPlan", unfollowed := true, recurses := true, apart := false }
def FnExactTurnedPlanSaid : Prop := fnExactTurnedPlanRow.holds Try.pinned (OpenSpec.ofChange fnExactTurnedPlanSpec)

/-- ITS FALSE NEIGHBOUR: 'it returns false'. Refute it at one input. -/
def fnExactTurnedPlanWrong : ChangeSpec := { name := "fnExactTurnedPlan", fn := fun _ => fun
  | [d] => { results := [.lit (.bool false)], args := [d] }
  | _ => none }
def FnExactTurnedPlanWrongFalsely : Prop := fnExactTurnedPlanRow.holds Try.pinned (OpenSpec.ofChange fnExactTurnedPlanWrong)

/-- 'laws.FnExactLoweredBy': WHATEVER THE INPUT: true; the input reads as it did. -/
def fnExactLoweredBySpec : ChangeSpec := { name := "fnExactLoweredBy", fn := fun _ => fun
  | [d1, d2] => { results := [.lit (.bool true)], args := [d1, d2] }
  | _ => none }
def fnExactLoweredByRow : OpenClaim := { program := "ytcjdodjjdchnaaa", sum := "f3a6f9d761b20c2d9c306cba4a3407825a9cabbf293b0f2e332dea02ba57c4ba", func := "loop.example/plansandpromises/laws.FnExactLoweredBy", spec := "fnExactLoweredBy", unfollowed := true, recurses := true, apart := false }
def FnExactLoweredBySaid : Prop := fnExactLoweredByRow.holds Try.pinned (OpenSpec.ofChange fnExactLoweredBySpec)

/-- ITS FALSE NEIGHBOUR: 'it returns false'. Refute it at one input. -/
def fnExactLoweredByWrong : ChangeSpec := { name := "fnExactLoweredBy", fn := fun _ => fun
  | [d1, d2] => { results := [.lit (.bool false)], args := [d1, d2] }
  | _ => none }
def FnExactLoweredByWrongFalsely : Prop := fnExactLoweredByRow.holds Try.pinned (OpenSpec.ofChange fnExactLoweredByWrong)

/-- 'laws.FnExactWithoutBound': WHATEVER THE INPUT: true; the input reads as it did. -/
def fnExactWithoutBoundSpec : ChangeSpec := { name := "fnExactWithoutBound", fn := fun _ => fun
  | [d1, d2] => { results := [.lit (.bool true)], args := [d1, d2] }
  | _ => none }
def fnExactWithoutBoundRow : OpenClaim := { program := "ytcjdodjjdchnaaa", sum := "f3a6f9d761b20c2d9c306cba4a3407825a9cabbf293b0f2e332dea02ba57c4ba", func := "loop.example/plansandpromises/laws.FnExactWithoutBound", spec := "fnExactWithoutBound", unfollowed := true, recurses := true, apart := false }
def FnExactWithoutBoundSaid : Prop := fnExactWithoutBoundRow.holds Try.pinned (OpenSpec.ofChange fnExactWithoutBoundSpec)

/-- ITS FALSE NEIGHBOUR: 'it returns false'. Refute it at one input. -/
def fnExactWithoutBoundWrong : ChangeSpec := { name := "fnExactWithoutBound", fn := fun _ => fun
  | [d1, d2] => { results := [.lit (.bool false)], args := [d1, d2] }
  | _ => none }
def FnExactWithoutBoundWrongFalsely : Prop := fnExactWithoutBoundRow.holds Try.pinned (OpenSpec.ofChange fnExactWithoutBoundWrong)

/-- 'laws.FnExactDeskOk': WHATEVER THE INPUT: true; the input reads as it did. -/
def fnExactDeskOkSpec : ChangeSpec := { name := "fnExactDeskOk", fn := fun _ => fun
  | [d] => { results := [.lit (.bool true)], args := [d] }
  | _ => none }
def fnExactDeskOkRow : OpenClaim := { program := "ytcjdodjjdchnaaa", sum := "f3a6f9d761b20c2d9c306cba4a3407825a9cabbf293b0f2e332dea02ba57c4ba", func := "loop.example/plansandpromises/laws.FnExactDeskOk", spec := "fnExactDeskOk", unfollowed := true, recurses := true, apart := false }
def FnExactDeskOkSaid : Prop := fnExactDeskOkRow.holds Try.pinned (OpenSpec.ofChange fnExactDeskOkSpec)

/-- ITS FALSE NEIGHBOUR: 'it returns false'. Refute it at one input. -/
def fnExactDeskOkWrong : ChangeSpec := { name := "fnExactDeskOk", fn := fun _ => fun
  | [d] => { results := [.lit (.bool false)], args := [d] }
  | _ => none }
def FnExactDeskOkWrongFalsely : Prop := fnExactDeskOkRow.holds Try.pinned (OpenSpec.ofChange fnExactDeskOkWrong)

/-- 'laws.FnKeepsOk': WHATEVER THE INPUT: true; the input reads as it did. -/
def fnKeepsOkSpec : ChangeSpec := { name := "fnKeepsOk", fn := fun _ => fun
  | [d] => { results := [.lit (.bool true)], args := [d] }
  | _ => none }
def fnKeepsOkRow : OpenClaim := { program := "ytcjdodjjdchnaaa", sum := "f3a6f9d761b20c2d9c306cba4a3407825a9cabbf293b0f2e332dea02ba57c4ba", func := "loop.example/plansandpromises/laws.FnKeepsOk", spec := "fnKeepsOk", unfollowed := true, recurses := true, apart := false }
def FnKeepsOkSaid : Prop := fnKeepsOkRow.holds Try.pinned (OpenSpec.ofChange fnKeepsOkSpec)

/-- ITS FALSE NEIGHBOUR: 'it returns false'. Refute it at one input. -/
def fnKeepsOkWrong : ChangeSpec := { name := "fnKeepsOk", fn := fun _ => fun
  | [d] => { results := [.lit (.bool false)], args := [d] }
  | _ => none }
def FnKeepsOkWrongFalsely : Prop := fnKeepsOkRow.holds Try.pinned (OpenSpec.ofChange fnKeepsOkWrong)

/-- 'laws.FnExactWithBound': WHATEVER THE INPUT: true; the input reads as it did. -/
def fnExactWithBoundSpec : ChangeSpec := { name := "fnExactWithBound", fn := fun _ => fun
  | [d1, d2] => { results := [.lit (.bool true)], args := [d1, d2] }
  | _ => none }
def fnExactWithBoundRow : OpenClaim := { program := "ytcjdodjjdchnaaa", sum := "f3a6f9d761b20c2d9c306cba4a3407825a9cabbf293b0f2e332dea02ba57c4ba", func := "loop.example/plansandpromises/laws.FnExactWithBound", spec := "fnExactWithBound", unfollowed := true, recurses := true, apart := false }
def FnExactWithBoundSaid : Prop := fnExactWithBoundRow.holds Try.pinned (OpenSpec.ofChange fnExactWithBoundSpec)

/-- ITS FALSE NEIGHBOUR: 'it returns false'. Refute it at one input. -/
def fnExactWithBoundWrong : ChangeSpec := { name := "fnExactWithBound", fn := fun _ => fun
  | [d1, d2] => { results := [.lit (.bool false)], args := [d1, d2] }
  | _ => none }
def FnExactWithBoundWrongFalsely : Prop := fnExactWithBoundRow.holds Try.pinned (OpenSpec.ofChange fnExactWithBoundWrong)

/-- 'laws.FnExactBothPlans': WHATEVER THE INPUT: true; the input reads as it did. -/
def fnExactBothPlansSpec : ChangeSpec := { name := "fnExactBothPlans", fn := fun _ => fun
  | [d1, d2] => { results := [.lit (.bool true)], args := [d1, d2] }
  | _ => none }
def fnExactBothPlansRow : OpenClaim := { program := "ytcjdodjjdchnaaa", sum := "f3a6f9d761b20c2d9c306cba4a3407825a9cabbf293b0f2e332dea02ba57c4ba", func := "loop.example/plansandpromises/laws.FnExactBothPlans", spec := "fnExactBothPlans", unfollowed := true, recurses := true, apart := false }
def FnExactBothPlansSaid : Prop := fnExactBothPlansRow.holds Try.pinned (OpenSpec.ofChange fnExactBothPlansSpec)

/-- ITS FALSE NEIGHBOUR: 'it returns false'. Refute it at one input. -/
def fnExactBothPlansWrong : ChangeSpec := { name := "fnExactBothPlans", fn := fun _ => fun
  | [d1, d2] => { results := [.lit (.bool false)], args := [d1, d2] }
  | _ => none }
def FnExactBothPlansWrongFalsely : Prop := fnExactBothPlansRow.holds Try.pinned (OpenSpec.ofChange fnExactBothPlansWrong)

/-- 'laws.FnExactSetTo': WHATEVER THE INPUT: true; the input reads as it did. -/
def fnExactSetToSpec : ChangeSpec := { name := "fnExactSetTo", fn := fun _ => fun
  | [d1, d2, d3, d4] => { results := [.lit (.bool true)], args := [d1, d2, d3, d4] }
  | _ => none }
def fnExactSetToRow : OpenClaim := { program := "ytcjdodjjdchnaaa", sum := "f3a6f9d761b20c2d9c306cba4a3407825a9cabbf293b0f2e332dea02ba57c4ba", func := "loop.example/plansandpromises/laws.FnExactSetTo", spec := "fnExactSetTo", unfollowed := true, recurses := true, apart := false }
def FnExactSetToSaid : Prop := fnExactSetToRow.holds Try.pinned (OpenSpec.ofChange fnExactSetToSpec)

/-- ITS FALSE NEIGHBOUR: 'it returns false'. Refute it at one input. -/
def fnExactSetToWrong : ChangeSpec := { name := "fnExactSetTo", fn := fun _ => fun
  | [d1, d2, d3, d4] => { results := [.lit (.bool false)], args := [d1, d2, d3, d4] }
  | _ => none }
def FnExactSetToWrongFalsely : Prop := fnExactSetToRow.holds Try.pinned (OpenSpec.ofChange fnExactSetToWrong)

/-- 'laws.FnExactDeskNew': WHATEVER THE INPUT: true; the input reads as it did. -/
def fnExactDeskNewSpec : ChangeSpec := { name := "fnExactDeskNew", fn := fun _ => fun
  | [d] => { results := [.lit (.bool true)], args := [d] }
  | _ => none }
def fnExactDeskNewRow : OpenClaim := { program := "ytcjdodjjdchnaaa", sum := "f3a6f9d761b20c2d9c306cba4a3407825a9cabbf293b0f2e332dea02ba57c4ba", func := "loop.example/plansandpromises/laws.FnExactDeskNew", spec := "fnExactDeskNew", unfollowed := true, recurses := true, apart := false }
def FnExactDeskNewSaid : Prop := fnExactDeskNewRow.holds Try.pinned (OpenSpec.ofChange fnExactDeskNewSpec)

/-- ITS FALSE NEIGHBOUR: 'it returns false'. Refute it at one input. -/
def fnExactDeskNewWrong : ChangeSpec := { name := "fnExactDeskNew", fn := fun _ => fun
  | [d] => { results := [.lit (.bool false)], args := [d] }
  | _ => none }
def FnExactDeskNewWrongFalsely : Prop := fnExactDeskNewRow.holds Try.pinned (OpenSpec.ofChange fnExactDeskNewWrong)

/- THE SECOND FORM. 'bulk': how many values and letters a reading holds, each counted each time it is reached (what is shared counts as often as it is met; a slice's spare places count too). A statement '..UptoSaid' is the law's where the arguments, and the package variables that the reading takes, are together of bulk at most 1048576: NARROWER than '..Said'. Prove '..Said' where nothing that the law and all that it calls make is longer than what came in: it says more and counts as full. Else prove '..UptoSaid'. A law counts once. -/
mutual
def uptoBulk {H : Type} : DataW H → Nat
  | .lit (.string bytes) => bytes.length + 1
  | .lit _ => 1
  | .nil => 1
  | .ptr d => uptoBulk d + 1
  | .slice elems spare => uptoBulkAll elems + uptoBulkAll spare + 1
  | .agg parts => uptoBulkAll parts + 1
  | .iface _ d => uptoBulk d + 1
  | .map entries => uptoBulkEntries entries + 1
  | .held _ => 1
def uptoBulkAll {H : Type} : List (DataW H) → Nat
  | [] => 0
  | d :: r => uptoBulk d + uptoBulkAll r
def uptoBulkEntries {H : Type} : List (Lit × DataW H) → Nat
  | [] => 0
  | x :: r => uptoBulkEntry x + uptoBulkEntries r
def uptoBulkEntry {H : Type} : Lit × DataW H → Nat
  | (.string bytes, d) => bytes.length + uptoBulk d + 1
  | (_, d) => uptoBulk d + 1
 end
def uptoSmall : (H : Type) → List (DataW H) → Bool := fun _ ds => decide (uptoBulkAll ds ≤ 1048576)
def OpenSpec.upto (s : _root_.Go.ChangeSpec) : _root_.Go.OpenSpec := { _root_.Go.OpenSpec.ofChange s with cond := some uptoSmall }

/-- 'laws.FnTurnedPlan', WHERE WHAT IT READS IS OF BULK AT MOST 1048576: true; the input reads as it did. -/
def fnTurnedPlanUptoRow : OpenClaim := { program := "ytcjdodjjdchnaaa", sum := "f3a6f9d761b20c2d9c306cba4a3407825a9cabbf293b0f2e332dea02ba57c4ba", func := "loop.example/plansandpromises/laws.FnTurnedPlan", spec := "fnTurnedPlan", unfollowed := true, recurses := true, apart := false, narrowed := true }
def FnTurnedPlanUptoSaid : Prop := fnTurnedPlanUptoRow.holds Try.pinned (OpenSpec.upto fnTurnedPlanSpec)

/-- 'laws.FnDeskNew', WHERE WHAT IT READS IS OF BULK AT MOST 1048576: true; the input reads as it did. -/
def fnDeskNewUptoRow : OpenClaim := { program := "ytcjdodjjdchnaaa", sum := "f3a6f9d761b20c2d9c306cba4a3407825a9cabbf293b0f2e332dea02ba57c4ba", func := "loop.example/plansandpromises/laws.FnDeskNew", spec := "fnDeskNew", unfollowed := true, recurses := true, apart := false, narrowed := true }
def FnDeskNewUptoSaid : Prop := fnDeskNewUptoRow.holds Try.pinned (OpenSpec.upto fnDeskNewSpec)

/-- 'laws.FnWithBound', WHERE WHAT IT READS IS OF BULK AT MOST 1048576: true; the input reads as it did. -/
def fnWithBoundUptoRow : OpenClaim := { program := "ytcjdodjjdchnaaa", sum := "f3a6f9d761b20c2d9c306cba4a3407825a9cabbf293b0f2e332dea02ba57c4ba", func := "loop.example/plansandpromises/laws.FnWithBound", spec := "fnWithBound", unfollowed := true, recurses := true, apart := false, narrowed := true }
def FnWithBoundUptoSaid : Prop := fnWithBoundUptoRow.holds Try.pinned (OpenSpec.upto fnWithBoundSpec)

/-- 'laws.FnExactTurnedPlan', WHERE WHAT IT READS IS OF BULK AT MOST 1048576: true; the input reads as it did. -/
def fnExactTurnedPlanUptoRow : OpenClaim := { program := "ytcjdodjjdchnaaa", sum := "f3a6f9d761b20c2d9c306cba4a3407825a9cabbf293b0f2e332dea02ba57c4ba", func := "loop.example/plansandpromises/laws.FnExactTurnedPlan", spec := "fnExactTurnedPlan", unfollowed := true, recurses := true, apart := false, narrowed := true }
def FnExactTurnedPlanUptoSaid : Prop := fnExactTurnedPlanUptoRow.holds Try.pinned (OpenSpec.upto fnExactTurnedPlanSpec)

/-- 'laws.FnExactLoweredBy', WHERE WHAT IT READS IS OF BULK AT MOST 1048576: true; the input reads as it did. -/
def fnExactLoweredByUptoRow : OpenClaim := { program := "ytcjdodjjdchnaaa", sum := "f3a6f9d761b20c2d9c306cba4a3407825a9cabbf293b0f2e332dea02ba57c4ba", func := "loop.example/plansandpromises/laws.FnExactLoweredBy", spec := "fnExactLoweredBy", unfollowed := true, recurses := true, apart := false, narrowed := true }
def FnExactLoweredByUptoSaid : Prop := fnExactLoweredByUptoRow.holds Try.pinned (OpenSpec.upto fnExactLoweredBySpec)

/-- 'laws.FnExactWithoutBound', WHERE WHAT IT READS IS OF BULK AT MOST 1048576: true; the input reads as it did. -/
def fnExactWithoutBoundUptoRow : OpenClaim := { program := "ytcjdodjjdchnaaa", sum := "f3a6f9d761b20c2d9c306cba4a3407825a9cabbf293b0f2e332dea02ba57c4ba", func := "loop.example/plansandpromises/laws.FnExactWithoutBound", spec := "fnExactWithoutBound", unfollowed := true, recurses := true, apart := false, narrowed := true }
def FnExactWithoutBoundUptoSaid : Prop := fnExactWithoutBoundUptoRow.holds Try.pinned (OpenSpec.upto fnExactWithoutBoundSpec)

/-- 'laws.FnExactDeskOk', WHERE WHAT IT READS IS OF BULK AT MOST 1048576: true; the input reads as it did. -/
def fnExactDeskOkUptoRow : OpenClaim := { program := "ytcjdodjjdchnaaa", sum := "f3a6f9d761b20c2d9c306cba4a3407825a9cabbf293b0f2e332dea02ba57c4ba", func := "loop.example/plansandpromises/laws.FnExactDeskOk", spec := "fnExactDeskOk", unfollowed := true, recurses := true, apart := false, narrowed := true }
def FnExactDeskOkUptoSaid : Prop := fnExactDeskOkUptoRow.holds Try.pinned (OpenSpec.upto fnExactDeskOkSpec)

/-- 'laws.FnKeepsOk', WHERE WHAT IT READS IS OF BULK AT MOST 1048576: true; the input reads as it did. -/
def fnKeepsOkUptoRow : OpenClaim := { program := "ytcjdodjjdchnaaa", sum := "f3a6f9d761b20c2d9c306cba4a3407825a9cabbf293b0f2e332dea02ba57c4ba", func := "loop.example/plansandpromises/laws.FnKeepsOk", spec := "fnKeepsOk", unfollowed := true, recurses := true, apart := false, narrowed := true }
def FnKeepsOkUptoSaid : Prop := fnKeepsOkUptoRow.holds Try.pinned (OpenSpec.upto fnKeepsOkSpec)

/-- 'laws.FnExactWithBound', WHERE WHAT IT READS IS OF BULK AT MOST 1048576: true; the input reads as it did. -/
def fnExactWithBoundUptoRow : OpenClaim := { program := "ytcjdodjjdchnaaa", sum := "f3a6f9d761b20c2d9c306cba4a3407825a9cabbf293b0f2e332dea02ba57c4ba", func := "loop.example/plansandpromises/laws.FnExactWithBound", spec := "fnExactWithBound", unfollowed := true, recurses := true, apart := false, narrowed := true }
def FnExactWithBoundUptoSaid : Prop := fnExactWithBoundUptoRow.holds Try.pinned (OpenSpec.upto fnExactWithBoundSpec)

/-- 'laws.FnExactBothPlans', WHERE WHAT IT READS IS OF BULK AT MOST 1048576: true; the input reads as it did. -/
def fnExactBothPlansUptoRow : OpenClaim := { program := "ytcjdodjjdchnaaa", sum := "f3a6f9d761b20c2d9c306cba4a3407825a9cabbf293b0f2e332dea02ba57c4ba", func := "loop.example/plansandpromises/laws.FnExactBothPlans", spec := "fnExactBothPlans", unfollowed := true, recurses := true, apart := false, narrowed := true }
def FnExactBothPlansUptoSaid : Prop := fnExactBothPlansUptoRow.holds Try.pinned (OpenSpec.upto fnExactBothPlansSpec)

/-- 'laws.FnExactSetTo', WHERE WHAT IT READS IS OF BULK AT MOST 1048576: true; the input reads as it did. -/
def fnExactSetToUptoRow : OpenClaim := { program := "ytcjdodjjdchnaaa", sum := "f3a6f9d761b20c2d9c306cba4a3407825a9cabbf293b0f2e332dea02ba57c4ba", func := "loop.example/plansandpromises/laws.FnExactSetTo", spec := "fnExactSetTo", unfollowed := true, recurses := true, apart := false, narrowed := true }
def FnExactSetToUptoSaid : Prop := fnExactSetToUptoRow.holds Try.pinned (OpenSpec.upto fnExactSetToSpec)

/-- 'laws.FnExactDeskNew', WHERE WHAT IT READS IS OF BULK AT MOST 1048576: true; the input reads as it did. -/
def fnExactDeskNewUptoRow : OpenClaim := { program := "ytcjdodjjdchnaaa", sum := "f3a6f9d761b20c2d9c306cba4a3407825a9cabbf293b0f2e332dea02ba57c4ba", func := "loop.example/plansandpromises/laws.FnExactDeskNew", spec := "fnExactDeskNew", unfollowed := true, recurses := true, apart := false, narrowed := true }
def FnExactDeskNewUptoSaid : Prop := fnExactDeskNewUptoRow.holds Try.pinned (OpenSpec.upto fnExactDeskNewSpec)

end Rows
end Go.Proofs.Ytcjdodjjdchnaaa
