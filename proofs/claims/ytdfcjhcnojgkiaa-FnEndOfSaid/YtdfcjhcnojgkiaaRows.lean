/-
  No cell of these rows narrows 'for every input' (looked for: loops, veiled, ifaces, maps, wideKeys, modest, calm, conditions, laid).
  DERIVED. THE GIVEN ROWS OF THIS SEAT. 6 by the template 'for every input the law returns true; each argument reads behind the call as it read before'; 0 by the template 'total and deterministic' (their statements: YtdfcjhcnojgkiaaTotals.lean).
  GIVEN WITH THE SEED: the statements are not yours to turn. If you find one false, say at which input.
  Laid BY PROGRAM, IN A SANDBOX (cutbox-rows.mjs): the forced cells as the released guide's own fill.sh prints them over the translation 5004779c45d71bc0… (all of the seat's roots in one cut). By AI agents, Wed Nov 11 2026. No macro, syntax, notation, axiom, sorry.
-/
import Derived.Test.YtdfcjhcnojgkiaaChecked
import GoSem.Claim
import GoSem.ClaimJoined
import GoSem.ClaimMapViews
import Derived.JoinedTies
import Derived.KernelRfl
namespace Go.Proofs.Ytdfcjhcnojgkiaa
/- THE CELL 'sum', in the pinned program and in every row, IS THE sha256 OF THE DUMP (.gsa) THAT YtdfcjhcnojgkiaaProg.lean LOADS. Nothing in Lean hashes anything: it is a label: what it is worth is what the hold of that sum in a sandbox is worth. -/
noncomputable def Try.pinned : Pinned := { name := "ytdfcjhcnojgkiaa", sum := "5004779c45d71bc0ab5f9b886beedb6860bb9f4915754a766013585e64387b29", checked := Try.checked }
namespace Rows
def none {H : Type} : Left H := { results := [], args := [] }

/-- 'laws.FnExactBeginsOk': WHATEVER THE INPUT: true; the input reads as it did. -/
def fnExactBeginsOkSpec : ChangeSpec := { name := "fnExactBeginsOk", fn := fun _ => fun
  | [d1, d2, d3] => { results := [.lit (.bool true)], args := [d1, d2, d3] }
  | _ => none }
def fnExactBeginsOkRow : OpenClaim := { program := "ytdfcjhcnojgkiaa", sum := "5004779c45d71bc0ab5f9b886beedb6860bb9f4915754a766013585e64387b29", func := "loop.example/plansandpromises/laws.FnExactBeginsOk", spec := "fnExactBeginsOk", unfollowed := true, recurses := true, apart := false }
def FnExactBeginsOkSaid : Prop := fnExactBeginsOkRow.holds Try.pinned (OpenSpec.ofChange fnExactBeginsOkSpec)

/-- ITS FALSE NEIGHBOUR: 'it returns false'. Refute it at one input. -/
def fnExactBeginsOkWrong : ChangeSpec := { name := "fnExactBeginsOk", fn := fun _ => fun
  | [d1, d2, d3] => { results := [.lit (.bool false)], args := [d1, d2, d3] }
  | _ => none }
def FnExactBeginsOkWrongFalsely : Prop := fnExactBeginsOkRow.holds Try.pinned (OpenSpec.ofChange fnExactBeginsOkWrong)

/-- 'laws.FnExactIdleOf': WHATEVER THE INPUT: true; the input reads as it did. -/
def fnExactIdleOfSpec : ChangeSpec := { name := "fnExactIdleOf", fn := fun _ => fun
  | [d1, d2, d3] => { results := [.lit (.bool true)], args := [d1, d2, d3] }
  | _ => none }
def fnExactIdleOfRow : OpenClaim := { program := "ytdfcjhcnojgkiaa", sum := "5004779c45d71bc0ab5f9b886beedb6860bb9f4915754a766013585e64387b29", func := "loop.example/plansandpromises/laws.FnExactIdleOf", spec := "fnExactIdleOf", unfollowed := true, recurses := true, apart := false }
def FnExactIdleOfSaid : Prop := fnExactIdleOfRow.holds Try.pinned (OpenSpec.ofChange fnExactIdleOfSpec)

/-- ITS FALSE NEIGHBOUR: 'it returns false'. Refute it at one input. -/
def fnExactIdleOfWrong : ChangeSpec := { name := "fnExactIdleOf", fn := fun _ => fun
  | [d1, d2, d3] => { results := [.lit (.bool false)], args := [d1, d2, d3] }
  | _ => none }
def FnExactIdleOfWrongFalsely : Prop := fnExactIdleOfRow.holds Try.pinned (OpenSpec.ofChange fnExactIdleOfWrong)

/-- 'laws.FnExactGreedyBy': WHATEVER THE INPUT: true; the input reads as it did. -/
def fnExactGreedyBySpec : ChangeSpec := { name := "fnExactGreedyBy", fn := fun _ => fun
  | [d1, d2, d3] => { results := [.lit (.bool true)], args := [d1, d2, d3] }
  | _ => none }
def fnExactGreedyByRow : OpenClaim := { program := "ytdfcjhcnojgkiaa", sum := "5004779c45d71bc0ab5f9b886beedb6860bb9f4915754a766013585e64387b29", func := "loop.example/plansandpromises/laws.FnExactGreedyBy", spec := "fnExactGreedyBy", unfollowed := true, recurses := true, apart := false }
def FnExactGreedyBySaid : Prop := fnExactGreedyByRow.holds Try.pinned (OpenSpec.ofChange fnExactGreedyBySpec)

/-- ITS FALSE NEIGHBOUR: 'it returns false'. Refute it at one input. -/
def fnExactGreedyByWrong : ChangeSpec := { name := "fnExactGreedyBy", fn := fun _ => fun
  | [d1, d2, d3] => { results := [.lit (.bool false)], args := [d1, d2, d3] }
  | _ => none }
def FnExactGreedyByWrongFalsely : Prop := fnExactGreedyByRow.holds Try.pinned (OpenSpec.ofChange fnExactGreedyByWrong)

/-- 'laws.FnExactBeginsBy': WHATEVER THE INPUT: true; the input reads as it did. -/
def fnExactBeginsBySpec : ChangeSpec := { name := "fnExactBeginsBy", fn := fun _ => fun
  | [d1, d2, d3] => { results := [.lit (.bool true)], args := [d1, d2, d3] }
  | _ => none }
def fnExactBeginsByRow : OpenClaim := { program := "ytdfcjhcnojgkiaa", sum := "5004779c45d71bc0ab5f9b886beedb6860bb9f4915754a766013585e64387b29", func := "loop.example/plansandpromises/laws.FnExactBeginsBy", spec := "fnExactBeginsBy", unfollowed := true, recurses := true, apart := false }
def FnExactBeginsBySaid : Prop := fnExactBeginsByRow.holds Try.pinned (OpenSpec.ofChange fnExactBeginsBySpec)

/-- ITS FALSE NEIGHBOUR: 'it returns false'. Refute it at one input. -/
def fnExactBeginsByWrong : ChangeSpec := { name := "fnExactBeginsBy", fn := fun _ => fun
  | [d1, d2, d3] => { results := [.lit (.bool false)], args := [d1, d2, d3] }
  | _ => none }
def FnExactBeginsByWrongFalsely : Prop := fnExactBeginsByRow.holds Try.pinned (OpenSpec.ofChange fnExactBeginsByWrong)

/-- 'laws.FnBeginsOk': WHATEVER THE INPUT: true; the input reads as it did. -/
def fnBeginsOkSpec : ChangeSpec := { name := "fnBeginsOk", fn := fun _ => fun
  | [d] => { results := [.lit (.bool true)], args := [d] }
  | _ => none }
def fnBeginsOkRow : OpenClaim := { program := "ytdfcjhcnojgkiaa", sum := "5004779c45d71bc0ab5f9b886beedb6860bb9f4915754a766013585e64387b29", func := "loop.example/plansandpromises/laws.FnBeginsOk", spec := "fnBeginsOk", unfollowed := true, recurses := true, apart := false }
def FnBeginsOkSaid : Prop := fnBeginsOkRow.holds Try.pinned (OpenSpec.ofChange fnBeginsOkSpec)

/-- ITS FALSE NEIGHBOUR: 'it returns false'. Refute it at one input. -/
def fnBeginsOkWrong : ChangeSpec := { name := "fnBeginsOk", fn := fun _ => fun
  | [d] => { results := [.lit (.bool false)], args := [d] }
  | _ => none }
def FnBeginsOkWrongFalsely : Prop := fnBeginsOkRow.holds Try.pinned (OpenSpec.ofChange fnBeginsOkWrong)

/-- 'laws.FnEndOf': WHATEVER THE INPUT: true; the input reads as it did. -/
def fnEndOfSpec : ChangeSpec := { name := "fnEndOf", fn := fun _ => fun
  | [d] => { results := [.lit (.bool true)], args := [d] }
  | _ => none }
def fnEndOfRow : OpenClaim := { program := "ytdfcjhcnojgkiaa", sum := "5004779c45d71bc0ab5f9b886beedb6860bb9f4915754a766013585e64387b29", func := "loop.example/plansandpromises/laws.FnEndOf", spec := "fnEndOf", unfollowed := true, recurses := true, apart := false }
def FnEndOfSaid : Prop := fnEndOfRow.holds Try.pinned (OpenSpec.ofChange fnEndOfSpec)

/-- ITS FALSE NEIGHBOUR: 'it returns false'. Refute it at one input. -/
def fnEndOfWrong : ChangeSpec := { name := "fnEndOf", fn := fun _ => fun
  | [d] => { results := [.lit (.bool false)], args := [d] }
  | _ => none }
def FnEndOfWrongFalsely : Prop := fnEndOfRow.holds Try.pinned (OpenSpec.ofChange fnEndOfWrong)

/- THE SECOND FORM. 'bulk': how many values and letters a reading holds, each counted each time it is reached (what is shared counts as often as it is met; a slice's spare places count too). A statement '..UptoSaid' is the law's where the arguments, and the package variables that the reading takes, are together of bulk at most 1048576: NARROWER than '..Said'. Prove '..Said' where nothing that the law and all that it calls make is longer than what came in: it says more and counts as full. Else prove '..UptoSaid'. A law counts once. -/
mutual
def uptoBulk {H : Type} : DataW H → Nat
  | .lit (.string bytes) => bytes.length + 1
  | .lit _ => 1
  | .nil => 1
  | .ptr d => uptoBulk d + 1
  | .slice elems spare => uptoBulkAll elems + uptoBulkAll spare + 1
  | .agg parts => uptoBulkAll parts + 1
  | .iface _ d => uptoBulk d + 1
  | .map entries => uptoBulkEntries entries + 1
  | .held _ => 1
def uptoBulkAll {H : Type} : List (DataW H) → Nat
  | [] => 0
  | d :: r => uptoBulk d + uptoBulkAll r
def uptoBulkEntries {H : Type} : List (Lit × DataW H) → Nat
  | [] => 0
  | x :: r => uptoBulkEntry x + uptoBulkEntries r
def uptoBulkEntry {H : Type} : Lit × DataW H → Nat
  | (.string bytes, d) => bytes.length + uptoBulk d + 1
  | (_, d) => uptoBulk d + 1
 end
def uptoSmall : (H : Type) → List (DataW H) → Bool := fun _ ds => decide (uptoBulkAll ds ≤ 1048576)
def OpenSpec.upto (s : _root_.Go.ChangeSpec) : _root_.Go.OpenSpec := { _root_.Go.OpenSpec.ofChange s with cond := some uptoSmall }

/-- 'laws.FnExactBeginsOk', WHERE WHAT IT READS IS OF BULK AT MOST 1048576: true; the input reads as it did. -/
def fnExactBeginsOkUptoRow : OpenClaim := { program := "ytdfcjhcnojgkiaa", sum := "5004779c45d71bc0ab5f9b886beedb6860bb9f4915754a766013585e64387b29", func := "loop.example/plansandpromises/laws.FnExactBeginsOk", spec := "fnExactBeginsOk", unfollowed := true, recurses := true, apart := false, narrowed := true }
def FnExactBeginsOkUptoSaid : Prop := fnExactBeginsOkUptoRow.holds Try.pinned (OpenSpec.upto fnExactBeginsOkSpec)

/-- 'laws.FnExactIdleOf', WHERE WHAT IT READS IS OF BULK AT MOST 1048576: true; the input reads as it did. -/
def fnExactIdleOfUptoRow : OpenClaim := { program := "ytdfcjhcnojgkiaa", sum := "5004779c45d71bc0ab5f9b886beedb6860bb9f4915754a766013585e64387b29", func := "loop.example/plansandpromises/laws.FnExactIdleOf", spec := "fnExactIdleOf", unfollowed := true, recurses := true, apart := false, narrowed := true }
def FnExactIdleOfUptoSaid : Prop := fnExactIdleOfUptoRow.holds Try.pinned (OpenSpec.upto fnExactIdleOfSpec)

/-- 'laws.FnExactGreedyBy', WHERE WHAT IT READS IS OF BULK AT MOST 1048576: true; the input reads as it did. -/
def fnExactGreedyByUptoRow : OpenClaim := { program := "ytdfcjhcnojgkiaa", sum := "5004779c45d71bc0ab5f9b886beedb6860bb9f4915754a766013585e64387b29", func := "loop.example/plansandpromises/laws.FnExactGreedyBy", spec := "fnExactGreedyBy", unfollowed := true, recurses := true, apart := false, narrowed := true }
def FnExactGreedyByUptoSaid : Prop := fnExactGreedyByUptoRow.holds Try.pinned (OpenSpec.upto fnExactGreedyBySpec)

/-- 'laws.FnExactBeginsBy', WHERE WHAT IT READS IS OF BULK AT MOST 1048576: true; the input reads as it did. -/
def fnExactBeginsByUptoRow : OpenClaim := { program := "ytdfcjhcnojgkiaa", sum := "5004779c45d71bc0ab5f9b886beedb6860bb9f4915754a766013585e64387b29", func := "loop.example/plansandpromises/laws.FnExactBeginsBy", spec := "fnExactBeginsBy", unfollowed := true, recurses := true, apart := false, narrowed := true }
def FnExactBeginsByUptoSaid : Prop := fnExactBeginsByUptoRow.holds Try.pinned (OpenSpec.upto fnExactBeginsBySpec)

/-- 'laws.FnBeginsOk', WHERE WHAT IT READS IS OF BULK AT MOST 1048576: true; the input reads as it did. -/
def fnBeginsOkUptoRow : OpenClaim := { program := "ytdfcjhcnojgkiaa", sum := "5004779c45d71bc0ab5f9b886beedb6860bb9f4915754a766013585e64387b29", func := "loop.example/plansandpromises/laws.FnBeginsOk", spec := "fnBeginsOk", unfollowed := true, recurses := true, apart := false, narrowed := true }
def FnBeginsOkUptoSaid : Prop := fnBeginsOkUptoRow.holds Try.pinned (OpenSpec.upto fnBeginsOkSpec)

/-- 'laws.FnEndOf', WHERE WHAT IT READS IS OF BULK AT MOST 1048576: true; the input reads as it did. -/
def fnEndOfUptoRow : OpenClaim := { program := "ytdfcjhcnojgkiaa", sum := "5004779c45d71bc0ab5f9b886beedb6860bb9f4915754a766013585e64387b29", func := "loop.example/plansandpromises/laws.FnEndOf", spec := "fnEndOf", unfollowed := true, recurses := true, apart := false, narrowed := true }
def FnEndOfUptoSaid : Prop := fnEndOfUptoRow.holds Try.pinned (OpenSpec.upto fnEndOfSpec)

end Rows
end Go.Proofs.Ytdfcjhcnojgkiaa
