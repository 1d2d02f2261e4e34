/-
  No cell of these rows narrows 'for every input' (looked for: loops, veiled, ifaces, maps, wideKeys, modest, calm, conditions, laid).
  DERIVED. THE GIVEN ROWS OF THIS SEAT. 7 by the template 'for every input the law returns true; each argument reads behind the call as it read before'; 0 by the template 'total and deterministic' (their statements: YtffcfambgcaikaaTotals.lean).
  GIVEN WITH THE SEED: the statements are not yours to turn. If you find one false, say at which input.
  Laid BY PROGRAM, IN A SANDBOX (cutbox-rows.mjs): the forced cells as the released guide's own fill.sh prints them over the translation 57b47bae65016cc2… (all of the seat's roots in one cut). By AI agents, Wed Nov 11 2026. No macro, syntax, notation, axiom, sorry.
-/
import Derived.Test.YtffcfambgcaikaaChecked
import GoSem.Claim
import GoSem.ClaimJoined
import GoSem.ClaimMapViews
import Derived.JoinedTies
import Derived.KernelRfl
namespace Go.Proofs.Ytffcfambgcaikaa
/- THE CELL 'sum', in the pinned program and in every row, IS THE sha256 OF THE DUMP (.gsa) THAT YtffcfambgcaikaaProg.lean LOADS. Nothing in Lean hashes anything: it is a label: what it is worth is what the hold of that sum in a sandbox is worth. -/
noncomputable def Try.pinned : Pinned := { name := "ytffcfambgcaikaa", sum := "57b47bae65016cc24d060b8d60bb7ce7c015a0be990a4e795015c2d5a57e94e7", checked := Try.checked }
namespace Rows
def none {H : Type} : Left H := { results := [], args := [] }

/-- 'laws.FnNextOf': WHATEVER THE INPUT: true; the input reads as it did. -/
def fnNextOfSpec : ChangeSpec := { name := "fnNextOf", fn := fun _ => fun
  | [d] => { results := [.lit (.bool true)], args := [d] }
  | _ => none }
def fnNextOfRow : OpenClaim := { program := "ytffcfambgcaikaa", sum := "57b47bae65016cc24d060b8d60bb7ce7c015a0be990a4e795015c2d5a57e94e7", func := "loop.example/plansandpromises/laws.FnNextOf", spec := "fnNextOf", unfollowed := true, recurses := true, apart := false }
def FnNextOfSaid : Prop := fnNextOfRow.holds Try.pinned (OpenSpec.ofChange fnNextOfSpec)

/-- ITS FALSE NEIGHBOUR: 'it returns false'. Refute it at one input. -/
def fnNextOfWrong : ChangeSpec := { name := "fnNextOf", fn := fun _ => fun
  | [d] => { results := [.lit (.bool false)], args := [d] }
  | _ => none }
def FnNextOfWrongFalsely : Prop := fnNextOfRow.holds Try.pinned (OpenSpec.ofChange fnNextOfWrong)

/-- 'laws.FnEndedBy': WHATEVER THE INPUT: true; the input reads as it did. -/
def fnEndedBySpec : ChangeSpec := { name := "fnEndedBy", fn := fun _ => fun
  | [d] => { results := [.lit (.bool true)], args := [d] }
  | _ => none }
def fnEndedByRow : OpenClaim := { program := "ytffcfambgcaikaa", sum := "57b47bae65016cc24d060b8d60bb7ce7c015a0be990a4e795015c2d5a57e94e7", func := "loop.example/plansandpromises/laws.FnEndedBy", spec := "fnEndedBy", unfollowed := true, recurses := true, apart := false }
def FnEndedBySaid : Prop := fnEndedByRow.holds Try.pinned (OpenSpec.ofChange fnEndedBySpec)

/-- ITS FALSE NEIGHBOUR: 'it returns false'. Refute it at one input. -/
def fnEndedByWrong : ChangeSpec := { name := "fnEndedBy", fn := fun _ => fun
  | [d] => { results := [.lit (.bool false)], args := [d] }
  | _ => none }
def FnEndedByWrongFalsely : Prop := fnEndedByRow.holds Try.pinned (OpenSpec.ofChange fnEndedByWrong)

/-- 'laws.FnExactEndedBy': WHATEVER THE INPUT: true; the input reads as it did. -/
def fnExactEndedBySpec : ChangeSpec := { name := "fnExactEndedBy", fn := fun _ => fun
  | [d1, d2] => { results := [.lit (.bool true)], args := [d1, d2] }
  | _ => none }
def fnExactEndedByRow : OpenClaim := { program := "ytffcfambgcaikaa", sum := "57b47bae65016cc24d060b8d60bb7ce7c015a0be990a4e795015c2d5a57e94e7", func := "loop.example/plansandpromises/laws.FnExactEndedBy", spec := "fnExactEndedBy", unfollowed := true, recurses := true, apart := false }
def FnExactEndedBySaid : Prop := fnExactEndedByRow.holds Try.pinned (OpenSpec.ofChange fnExactEndedBySpec)

/-- ITS FALSE NEIGHBOUR: 'it returns false'. Refute it at one input. -/
def fnExactEndedByWrong : ChangeSpec := { name := "fnExactEndedBy", fn := fun _ => fun
  | [d1, d2] => { results := [.lit (.bool false)], args := [d1, d2] }
  | _ => none }
def FnExactEndedByWrongFalsely : Prop := fnExactEndedByRow.holds Try.pinned (OpenSpec.ofChange fnExactEndedByWrong)

/-- 'laws.FnNeverStuck': WHATEVER THE INPUT: true; the input reads as it did. -/
def fnNeverStuckSpec : ChangeSpec := { name := "fnNeverStuck", fn := fun _ => fun
  | [d] => { results := [.lit (.bool true)], args := [d] }
  | _ => none }
def fnNeverStuckRow : OpenClaim := { program := "ytffcfambgcaikaa", sum := "57b47bae65016cc24d060b8d60bb7ce7c015a0be990a4e795015c2d5a57e94e7", func := "loop.example/plansandpromises/laws.FnNeverStuck", spec := "fnNeverStuck", unfollowed := true, recurses := true, apart := false }
def FnNeverStuckSaid : Prop := fnNeverStuckRow.holds Try.pinned (OpenSpec.ofChange fnNeverStuckSpec)

/-- ITS FALSE NEIGHBOUR: 'it returns false'. Refute it at one input. -/
def fnNeverStuckWrong : ChangeSpec := { name := "fnNeverStuck", fn := fun _ => fun
  | [d] => { results := [.lit (.bool false)], args := [d] }
  | _ => none }
def FnNeverStuckWrongFalsely : Prop := fnNeverStuckRow.holds Try.pinned (OpenSpec.ofChange fnNeverStuckWrong)

/-- 'laws.FnFirstBad': WHATEVER THE INPUT: true; the input reads as it did. -/
def fnFirstBadSpec : ChangeSpec := { name := "fnFirstBad", fn := fun _ => fun
  | [d] => { results := [.lit (.bool true)], args := [d] }
  | _ => none }
def fnFirstBadRow : OpenClaim := { program := "ytffcfambgcaikaa", sum := "57b47bae65016cc24d060b8d60bb7ce7c015a0be990a4e795015c2d5a57e94e7", func := "loop.example/plansandpromises/laws.FnFirstBad", spec := "fnFirstBad", unfollowed := true, recurses := true, apart := false }
def FnFirstBadSaid : Prop := fnFirstBadRow.holds Try.pinned (OpenSpec.ofChange fnFirstBadSpec)

/-- ITS FALSE NEIGHBOUR: 'it returns false'. Refute it at one input. -/
def fnFirstBadWrong : ChangeSpec := { name := "fnFirstBad", fn := fun _ => fun
  | [d] => { results := [.lit (.bool false)], args := [d] }
  | _ => none }
def FnFirstBadWrongFalsely : Prop := fnFirstBadRow.holds Try.pinned (OpenSpec.ofChange fnFirstBadWrong)

/-- 'laws.FnWaitUntil': WHATEVER THE INPUT: true; the input reads as it did. -/
def fnWaitUntilSpec : ChangeSpec := { name := "fnWaitUntil", fn := fun _ => fun
  | [d] => { results := [.lit (.bool true)], args := [d] }
  | _ => none }
def fnWaitUntilRow : OpenClaim := { program := "ytffcfambgcaikaa", sum := "57b47bae65016cc24d060b8d60bb7ce7c015a0be990a4e795015c2d5a57e94e7", func := "loop.example/plansandpromises/laws.FnWaitUntil", spec := "fnWaitUntil", unfollowed := true, recurses := true, apart := false }
def FnWaitUntilSaid : Prop := fnWaitUntilRow.holds Try.pinned (OpenSpec.ofChange fnWaitUntilSpec)

/-- ITS FALSE NEIGHBOUR: 'it returns false'. Refute it at one input. -/
def fnWaitUntilWrong : ChangeSpec := { name := "fnWaitUntil", fn := fun _ => fun
  | [d] => { results := [.lit (.bool false)], args := [d] }
  | _ => none }
def FnWaitUntilWrongFalsely : Prop := fnWaitUntilRow.holds Try.pinned (OpenSpec.ofChange fnWaitUntilWrong)

/-- 'laws.FnExactNextOf': WHATEVER THE INPUT: true; the input reads as it did. -/
def fnExactNextOfSpec : ChangeSpec := { name := "fnExactNextOf", fn := fun _ => fun
  | [d1, d2] => { results := [.lit (.bool true)], args := [d1, d2] }
  | _ => none }
def fnExactNextOfRow : OpenClaim := { program := "ytffcfambgcaikaa", sum := "57b47bae65016cc24d060b8d60bb7ce7c015a0be990a4e795015c2d5a57e94e7", func := "loop.example/plansandpromises/laws.FnExactNextOf", spec := "fnExactNextOf", unfollowed := true, recurses := true, apart := false }
def FnExactNextOfSaid : Prop := fnExactNextOfRow.holds Try.pinned (OpenSpec.ofChange fnExactNextOfSpec)

/-- ITS FALSE NEIGHBOUR: 'it returns false'. Refute it at one input. -/
def fnExactNextOfWrong : ChangeSpec := { name := "fnExactNextOf", fn := fun _ => fun
  | [d1, d2] => { results := [.lit (.bool false)], args := [d1, d2] }
  | _ => none }
def FnExactNextOfWrongFalsely : Prop := fnExactNextOfRow.holds Try.pinned (OpenSpec.ofChange fnExactNextOfWrong)

/- THE SECOND FORM. 'bulk': how many values and letters a reading holds, each counted each time it is reached (what is shared counts as often as it is met; a slice's spare places count too). A statement '..UptoSaid' is the law's where the arguments, and the package variables that the reading takes, are together of bulk at most 1048576: NARROWER than '..Said'. Prove '..Said' where nothing that the law and all that it calls make is longer than what came in: it says more and counts as full. Else prove '..UptoSaid'. A law counts once. -/
mutual
def uptoBulk {H : Type} : DataW H → Nat
  | .lit (.string bytes) => bytes.length + 1
  | .lit _ => 1
  | .nil => 1
  | .ptr d => uptoBulk d + 1
  | .slice elems spare => uptoBulkAll elems + uptoBulkAll spare + 1
  | .agg parts => uptoBulkAll parts + 1
  | .iface _ d => uptoBulk d + 1
  | .map entries => uptoBulkEntries entries + 1
  | .held _ => 1
def uptoBulkAll {H : Type} : List (DataW H) → Nat
  | [] => 0
  | d :: r => uptoBulk d + uptoBulkAll r
def uptoBulkEntries {H : Type} : List (Lit × DataW H) → Nat
  | [] => 0
  | x :: r => uptoBulkEntry x + uptoBulkEntries r
def uptoBulkEntry {H : Type} : Lit × DataW H → Nat
  | (.string bytes, d) => bytes.length + uptoBulk d + 1
  | (_, d) => uptoBulk d + 1
 end
def uptoSmall : (H : Type) → List (DataW H) → Bool := fun _ ds => decide (uptoBulkAll ds ≤ 1048576)
def OpenSpec.upto (s : _root_.Go.ChangeSpec) : _root_.Go.OpenSpec := { _root_.Go.OpenSpec.ofChange s with cond := some uptoSmall }

/-- 'laws.FnNextOf', WHERE WHAT IT READS IS OF BULK AT MOST 1048576: true; the input reads as it did. -/
def fnNextOfUptoRow : OpenClaim := { program := "ytffcfambgcaikaa", sum := "57b47bae65016cc24d060b8d60bb7ce7c015a0be990a4e795015c2d5a57e94e7", func := "loop.example/plansandpromises/laws.FnNextOf", spec := "fnNextOf", unfollowed := true, recurses := true, apart := false, narrowed := true }
def FnNextOfUptoSaid : Prop := fnNextOfUptoRow.holds Try.pinned (OpenSpec.upto fnNextOfSpec)

/-- 'laws.FnEndedBy', WHERE WHAT IT READS IS OF BULK AT MOST 1048576: true; the input reads as it did. -/
def fnEndedByUptoRow : OpenClaim := { program := "ytffcfambgcaikaa", sum := "57b47bae65016cc24d060b8d60bb7ce7c015a0be990a4e795015c2d5a57e94e7", func := "loop.example/plansandpromises/laws.FnEndedBy", spec := "fnEndedBy", unfollowed := true, recurses := true, apart := false, narrowed := true }
def FnEndedByUptoSaid : Prop := fnEndedByUptoRow.holds Try.pinned (OpenSpec.upto fnEndedBySpec)

/-- 'laws.FnExactEndedBy', WHERE WHAT IT READS IS OF BULK AT MOST 1048576: true; the input reads as it did. -/
def fnExactEndedByUptoRow : OpenClaim := { program := "ytffcfambgcaikaa", sum := "57b47bae65016cc24d060b8d60bb7ce7c015a0be990a4e795015c2d5a57e94e7", func := "loop.example/plansandpromises/laws.FnExactEndedBy", spec := "fnExactEndedBy", unfollowed := true, recurses := true, apart := false, narrowed := true }
def FnExactEndedByUptoSaid : Prop := fnExactEndedByUptoRow.holds Try.pinned (OpenSpec.upto fnExactEndedBySpec)

/-- 'laws.FnNeverStuck', WHERE WHAT IT READS IS OF BULK AT MOST 1048576: true; the input reads as it did. -/
def fnNeverStuckUptoRow : OpenClaim := { program := "ytffcfambgcaikaa", sum := "57b47bae65016cc24d060b8d60bb7ce7c015a0be990a4e795015c2d5a57e94e7", func := "loop.example/plansandpromises/laws.FnNeverStuck", spec := "fnNeverStuck", unfollowed := true, recurses := true, apart := false, narrowed := true }
def FnNeverStuckUptoSaid : Prop := fnNeverStuckUptoRow.holds Try.pinned (OpenSpec.upto fnNeverStuckSpec)

/-- 'laws.FnFirstBad', WHERE WHAT IT READS IS OF BULK AT MOST 1048576: true; the input reads as it did. -/
def fnFirstBadUptoRow : OpenClaim := { program := "ytffcfambgcaikaa", sum := "57b47bae65016cc24d060b8d60bb7ce7c015a0be990a4e795015c2d5a57e94e7", func := "loop.example/plansandpromises/laws.FnFirstBad", spec := "fnFirstBad", unfollowed := true, recurses := true, apart := false, narrowed := true }
def FnFirstBadUptoSaid : Prop := fnFirstBadUptoRow.holds Try.pinned (OpenSpec.upto fnFirstBadSpec)

/-- 'laws.FnWaitUntil', WHERE WHAT IT READS IS OF BULK AT MOST 1048576: true; the input reads as it did. -/
def fnWaitUntilUptoRow : OpenClaim := { program := "ytffcfambgcaikaa", sum := "57b47bae65016cc24d060b8d60bb7ce7c015a0be990a4e795015c2d5a57e94e7", func := "loop.example/plansandpromises/laws.FnWaitUntil", spec := "fnWaitUntil", unfollowed := true, recurses := true, apart := false, narrowed := true }
def FnWaitUntilUptoSaid : Prop := fnWaitUntilUptoRow.holds Try.pinned (OpenSpec.upto fnWaitUntilSpec)

/-- 'laws.FnExactNextOf', WHERE WHAT IT READS IS OF BULK AT MOST 1048576: true; the input reads as it did. -/
def fnExactNextOfUptoRow : OpenClaim := { program := "ytffcfambgcaikaa", sum := "57b47bae65016cc24d060b8d60bb7ce7c015a0be990a4e795015c2d5a57e94e7", func := "loop.example/plansandpromises/laws.FnExactNextOf", spec := "fnExactNextOf", unfollowed := true, recurses := true, apart := false, narrowed := true }
def FnExactNextOfUptoSaid : Prop := fnExactNextOfUptoRow.holds Try.pinned (OpenSpec.upto fnExactNextOfSpec)

end Rows
end Go.Proofs.Ytffcfambgcaikaa
