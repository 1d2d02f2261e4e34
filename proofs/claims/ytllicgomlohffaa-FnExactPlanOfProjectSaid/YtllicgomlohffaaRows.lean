/-
  No cell of these rows narrows 'for every input' (looked for: loops, veiled, ifaces, maps, wideKeys, modest, calm, conditions, laid).
  DERIVED. THE GIVEN ROWS OF THIS SEAT. 11 by the template 'for every input the law returns true; each argument reads behind the call as it read before'; 0 by the template 'total and deterministic' (their statements: YtllicgomlohffaaTotals.lean).
  GIVEN WITH THE SEED: the statements are not yours to turn. If you find one false, say at which input.
  Laid BY PROGRAM, IN A SANDBOX (cutbox-rows.mjs): the forced cells as the released guide's own fill.sh prints them over the translation 64e9d0f380dfad7f… (all of the seat's roots in one cut). By AI agents, Wed Nov 11 2026. No macro, syntax, notation, axiom, sorry.
-/
import Derived.Test.YtllicgomlohffaaChecked
import GoSem.Claim
import GoSem.ClaimJoined
import GoSem.ClaimMapViews
import Derived.JoinedTies
import Derived.KernelRfl
namespace Go.Proofs.Ytllicgomlohffaa
/- THE CELL 'sum', in the pinned program and in every row, IS THE sha256 OF THE DUMP (.gsa) THAT YtllicgomlohffaaProg.lean LOADS. Nothing in Lean hashes anything: it is a label: what it is worth is what the hold of that sum in a sandbox is worth. -/
noncomputable def Try.pinned : Pinned := { name := "ytllicgomlohffaa", sum := "64e9d0f380dfad7f9696b18375fa19415cfcbce59562f94af0907297e8165174", checked := Try.checked }
namespace Rows
def none {H : Type} : Left H := { results := [], args := [] }

/-- 'laws.FnExactLengthOf': WHATEVER THE INPUT: true; the input reads as it did. -/
def fnExactLengthOfSpec : ChangeSpec := { name := "fnExactLengthOf", fn := fun _ => fun
  | [d] => { results := [.lit (.bool true)], args := [d] }
  | _ => none }
def fnExactLengthOfRow : OpenClaim := { program := "ytllicgomlohffaa", sum := "64e9d0f380dfad7f9696b18375fa19415cfcbce59562f94af0907297e8165174", func := "loop.example/plansandpromises/laws.FnExactLengthOf", spec := "fnExactLengthOf", unfollowed := true, recurses := true, apart := false }
def FnExactLengthOfSaid : Prop := fnExactLengthOfRow.holds Try.pinned (OpenSpec.ofChange fnExactLengthOfSpec)

/-- ITS FALSE NEIGHBOUR: 'it returns false'. Refute it at one input. -/
def fnExactLengthOfWrong : ChangeSpec := { name := "fnExactLengthOf", fn := fun _ => fun
  | [d] => { results := [.lit (.bool false)], args := [d] }
  | _ => none }
def FnExactLengthOfWrongFalsely : Prop := fnExactLengthOfRow.holds Try.pinned (OpenSpec.ofChange fnExactLengthOfWrong)

/-- 'laws.FnEarlyOf': WHATEVER THE INPUT: true; the input reads as it did. -/
def fnEarlyOfSpec : ChangeSpec := { name := "fnEarlyOf", fn := fun _ => fun
  | [d] => { results := [.lit (.bool true)], args := [d] }
  | _ => none }
def fnEarlyOfRow : OpenClaim := { program := "ytllicgomlohffaa", sum := "64e9d0f380dfad7f9696b18375fa19415cfcbce59562f94af0907297e8165174", func := "loop.example/plansandpromises/laws.FnEarlyOf", spec := "fnEarlyOf", unfollowed := true, recurses := true, apart := false }
def FnEarlyOfSaid : Prop := fnEarlyOfRow.holds Try.pinned (OpenSpec.ofChange fnEarlyOfSpec)

/-- ITS FALSE NEIGHBOUR: 'it returns false'. Refute it at one input. -/
def fnEarlyOfWrong : ChangeSpec := { name := "fnEarlyOf", fn := fun _ => fun
  | [d] => { results := [.lit (.bool false)], args := [d] }
  | _ => none }
def FnEarlyOfWrongFalsely : Prop := fnEarlyOfRow.holds Try.pinned (OpenSpec.ofChange fnEarlyOfWrong)

/-- 'laws.FnLengthOf': WHATEVER THE INPUT: true; the input reads as it did. -/
def fnLengthOfSpec : ChangeSpec := { name := "fnLengthOf", fn := fun _ => fun
  | [d] => { results := [.lit (.bool true)], args := [d] }
  | _ => none }
def fnLengthOfRow : OpenClaim := { program := "ytllicgomlohffaa", sum := "64e9d0f380dfad7f9696b18375fa19415cfcbce59562f94af0907297e8165174", func := "loop.example/plansandpromises/laws.FnLengthOf", spec := "fnLengthOf", unfollowed := true, recurses := true, apart := false }
def FnLengthOfSaid : Prop := fnLengthOfRow.holds Try.pinned (OpenSpec.ofChange fnLengthOfSpec)

/-- ITS FALSE NEIGHBOUR: 'it returns false'. Refute it at one input. -/
def fnLengthOfWrong : ChangeSpec := { name := "fnLengthOf", fn := fun _ => fun
  | [d] => { results := [.lit (.bool false)], args := [d] }
  | _ => none }
def FnLengthOfWrongFalsely : Prop := fnLengthOfRow.holds Try.pinned (OpenSpec.ofChange fnLengthOfWrong)

/-- 'laws.FnExactEarlyOf': WHATEVER THE INPUT: true; the input reads as it did. -/
def fnExactEarlyOfSpec : ChangeSpec := { name := "fnExactEarlyOf", fn := fun _ => fun
  | [d] => { results := [.lit (.bool true)], args := [d] }
  | _ => none }
def fnExactEarlyOfRow : OpenClaim := { program := "ytllicgomlohffaa", sum := "64e9d0f380dfad7f9696b18375fa19415cfcbce59562f94af0907297e8165174", func := "loop.example/plansandpromises/laws.FnExactEarlyOf", spec := "fnExactEarlyOf", unfollowed := true, recurses := true, apart := false }
def FnExactEarlyOfSaid : Prop := fnExactEarlyOfRow.holds Try.pinned (OpenSpec.ofChange fnExactEarlyOfSpec)

/-- ITS FALSE NEIGHBOUR: 'it returns false'. Refute it at one input. -/
def fnExactEarlyOfWrong : ChangeSpec := { name := "fnExactEarlyOf", fn := fun _ => fun
  | [d] => { results := [.lit (.bool false)], args := [d] }
  | _ => none }
def FnExactEarlyOfWrongFalsely : Prop := fnExactEarlyOfRow.holds Try.pinned (OpenSpec.ofChange fnExactEarlyOfWrong)

/-- 'laws.FnExactLateOf': WHATEVER THE INPUT: true; the input reads as it did. -/
def fnExactLateOfSpec : ChangeSpec := { name := "fnExactLateOf", fn := fun _ => fun
  | [d] => { results := [.lit (.bool true)], args := [d] }
  | _ => none }
def fnExactLateOfRow : OpenClaim := { program := "ytllicgomlohffaa", sum := "64e9d0f380dfad7f9696b18375fa19415cfcbce59562f94af0907297e8165174", func := "loop.example/plansandpromises/laws.FnExactLateOf", spec := "fnExactLateOf", unfollowed := true, recurses := true, apart := false }
def FnExactLateOfSaid : Prop := fnExactLateOfRow.holds Try.pinned (OpenSpec.ofChange fnExactLateOfSpec)

/-- ITS FALSE NEIGHBOUR: 'it returns false'. Refute it at one input. -/
def fnExactLateOfWrong : ChangeSpec := { name := "fnExactLateOf", fn := fun _ => fun
  | [d] => { results := [.lit (.bool false)], args := [d] }
  | _ => none }
def FnExactLateOfWrongFalsely : Prop := fnExactLateOfRow.holds Try.pinned (OpenSpec.ofChange fnExactLateOfWrong)

/-- 'laws.FnLateOf': WHATEVER THE INPUT: true; the input reads as it did. -/
def fnLateOfSpec : ChangeSpec := { name := "fnLateOf", fn := fun _ => fun
  | [d] => { results := [.lit (.bool true)], args := [d] }
  | _ => none }
def fnLateOfRow : OpenClaim := { program := "ytllicgomlohffaa", sum := "64e9d0f380dfad7f9696b18375fa19415cfcbce59562f94af0907297e8165174", func := "loop.example/plansandpromises/laws.FnLateOf", spec := "fnLateOf", unfollowed := true, recurses := true, apart := false }
def FnLateOfSaid : Prop := fnLateOfRow.holds Try.pinned (OpenSpec.ofChange fnLateOfSpec)

/-- ITS FALSE NEIGHBOUR: 'it returns false'. Refute it at one input. -/
def fnLateOfWrong : ChangeSpec := { name := "fnLateOf", fn := fun _ => fun
  | [d] => { results := [.lit (.bool false)], args := [d] }
  | _ => none }
def FnLateOfWrongFalsely : Prop := fnLateOfRow.holds Try.pinned (OpenSpec.ofChange fnLateOfWrong)

/-- 'laws.FnExactSparesOf': WHATEVER THE INPUT: true; the input reads as it did. -/
def fnExactSparesOfSpec : ChangeSpec := { name := "fnExactSparesOf", fn := fun _ => fun
  | [d] => { results := [.lit (.bool true)], args := [d] }
  | _ => none }
def fnExactSparesOfRow : OpenClaim := { program := "ytllicgomlohffaa", sum := "64e9d0f380dfad7f9696b18375fa19415cfcbce59562f94af0907297e8165174", func := "loop.example/plansandpromises/laws.FnExactSparesOf", spec := "fnExactSparesOf", unfollowed := true, recurses := true, apart := false }
def FnExactSparesOfSaid : Prop := fnExactSparesOfRow.holds Try.pinned (OpenSpec.ofChange fnExactSparesOfSpec)

/-- ITS FALSE NEIGHBOUR: 'it returns false'. Refute it at one input. -/
def fnExactSparesOfWrong : ChangeSpec := { name := "fnExactSparesOf", fn := fun _ => fun
  | [d] => { results := [.lit (.bool false)], args := [d] }
  | _ => none }
def FnExactSparesOfWrongFalsely : Prop := fnExactSparesOfRow.holds Try.pinned (OpenSpec.ofChange fnExactSparesOfWrong)

/-- 'laws.FnSparesOf': WHATEVER THE INPUT: true; the input reads as it did. -/
def fnSparesOfSpec : ChangeSpec := { name := "fnSparesOf", fn := fun _ => fun
  | [d] => { results := [.lit (.bool true)], args := [d] }
  | _ => none }
def fnSparesOfRow : OpenClaim := { program := "ytllicgomlohffaa", sum := "64e9d0f380dfad7f9696b18375fa19415cfcbce59562f94af0907297e8165174", func := "loop.example/plansandpromises/laws.FnSparesOf", spec := "fnSparesOf", unfollowed := true, recurses := true, apart := false }
def FnSparesOfSaid : Prop := fnSparesOfRow.holds Try.pinned (OpenSpec.ofChange fnSparesOfSpec)

/-- ITS FALSE NEIGHBOUR: 'it returns false'. Refute it at one input. -/
def fnSparesOfWrong : ChangeSpec := { name := "fnSparesOf", fn := fun _ => fun
  | [d] => { results := [.lit (.bool false)], args := [d] }
  | _ => none }
def FnSparesOfWrongFalsely : Prop := fnSparesOfRow.holds Try.pinned (OpenSpec.ofChange fnSparesOfWrong)

/-- 'laws.FnExactChainOf': WHATEVER THE INPUT: true; the input reads as it did. -/
def fnExactChainOfSpec : ChangeSpec := { name := "fnExactChainOf", fn := fun _ => fun
  | [d] => { results := [.lit (.bool true)], args := [d] }
  | _ => none }
def fnExactChainOfRow : OpenClaim := { program := "ytllicgomlohffaa", sum := "64e9d0f380dfad7f9696b18375fa19415cfcbce59562f94af0907297e8165174", func := "loop.example/plansandpromises/laws.FnExactChainOf", spec := "fnExactChainOf", unfollowed := true, recurses := true, apart := false }
def FnExactChainOfSaid : Prop := fnExactChainOfRow.holds Try.pinned (OpenSpec.ofChange fnExactChainOfSpec)

/-- ITS FALSE NEIGHBOUR: 'it returns false'. Refute it at one input. -/
def fnExactChainOfWrong : ChangeSpec := { name := "fnExactChainOf", fn := fun _ => fun
  | [d] => { results := [.lit (.bool false)], args := [d] }
  | _ => none }
def FnExactChainOfWrongFalsely : Prop := fnExactChainOfRow.holds Try.pinned (OpenSpec.ofChange fnExactChainOfWrong)

/-- 'laws.FnChainOf': WHATEVER THE INPUT: true; the input reads as it did. -/
def fnChainOfSpec : ChangeSpec := { name := "fnChainOf", fn := fun _ => fun
  | [d] => { results := [.lit (.bool true)], args := [d] }
  | _ => none }
def fnChainOfRow : OpenClaim := { program := "ytllicgomlohffaa", sum := "64e9d0f380dfad7f9696b18375fa19415cfcbce59562f94af0907297e8165174", func := "loop.example/plansandpromises/laws.FnChainOf", spec := "fnChainOf", unfollowed := true, recurses := true, apart := false }
def FnChainOfSaid : Prop := fnChainOfRow.holds Try.pinned (OpenSpec.ofChange fnChainOfSpec)

/-- ITS FALSE NEIGHBOUR: 'it returns false'. Refute it at one input. -/
def fnChainOfWrong : ChangeSpec := { name := "fnChainOf", fn := fun _ => fun
  | [d] => { results := [.lit (.bool false)], args := [d] }
  | _ => none }
def FnChainOfWrongFalsely : Prop := fnChainOfRow.holds Try.pinned (OpenSpec.ofChange fnChainOfWrong)

/-- 'laws.FnExactPlanOfProject': WHATEVER THE INPUT: true; the input reads as it did. -/
def fnExactPlanOfProjectSpec : ChangeSpec := { name := "fnExactPlanOfProject", fn := fun _ => fun
  | [d] => { results := [.lit (.bool true)], args := [d] }
  | _ => none }
def fnExactPlanOfProjectRow : OpenClaim := { program := "ytllicgomlohffaa", sum := "64e9d0f380dfad7f9696b18375fa19415cfcbce59562f94af0907297e8165174", func := "loop.example/plansandpromises/laws.FnExactPlanOfProject", spec := "fnExactPlanOfProject", unfollowed := true, recurses := true, apart := false }
def FnExactPlanOfProjectSaid : Prop := fnExactPlanOfProjectRow.holds Try.pinned (OpenSpec.ofChange fnExactPlanOfProjectSpec)

/-- ITS FALSE NEIGHBOUR: 'it returns false'. Refute it at one input. -/
def fnExactPlanOfProjectWrong : ChangeSpec := { name := "fnExactPlanOfProject", fn := fun _ => fun
  | [d] => { results := [.lit (.bool false)], args := [d] }
  | _ => none }
def FnExactPlanOfProjectWrongFalsely : Prop := fnExactPlanOfProjectRow.holds Try.pinned (OpenSpec.ofChange fnExactPlanOfProjectWrong)

/- THE SECOND FORM. 'bulk': how many values and letters a reading holds, each counted each time it is reached (what is shared counts as often as it is met; a slice's spare places count too). A statement '..UptoSaid' is the law's where the arguments, and the package variables that the reading takes, are together of bulk at most 1048576: NARROWER than '..Said'. Prove '..Said' where nothing that the law and all that it calls make is longer than what came in: it says more and counts as full. Else prove '..UptoSaid'. A law counts once. -/
mutual
def uptoBulk {H : Type} : DataW H → Nat
  | .lit (.string bytes) => bytes.length + 1
  | .lit _ => 1
  | .nil => 1
  | .ptr d => uptoBulk d + 1
  | .slice elems spare => uptoBulkAll elems + uptoBulkAll spare + 1
  | .agg parts => uptoBulkAll parts + 1
  | .iface _ d => uptoBulk d + 1
  | .map entries => uptoBulkEntries entries + 1
  | .held _ => 1
def uptoBulkAll {H : Type} : List (DataW H) → Nat
  | [] => 0
  | d :: r => uptoBulk d + uptoBulkAll r
def uptoBulkEntries {H : Type} : List (Lit × DataW H) → Nat
  | [] => 0
  | x :: r => uptoBulkEntry x + uptoBulkEntries r
def uptoBulkEntry {H : Type} : Lit × DataW H → Nat
  | (.string bytes, d) => bytes.length + uptoBulk d + 1
  | (_, d) => uptoBulk d + 1
 end
def uptoSmall : (H : Type) → List (DataW H) → Bool := fun _ ds => decide (uptoBulkAll ds ≤ 1048576)
def OpenSpec.upto (s : _root_.Go.ChangeSpec) : _root_.Go.OpenSpec := { _root_.Go.OpenSpec.ofChange s with cond := some uptoSmall }

/-- 'laws.FnExactLengthOf', WHERE WHAT IT READS IS OF BULK AT MOST 1048576: true; the input reads as it did. -/
def fnExactLengthOfUptoRow : OpenClaim := { program := "ytllicgomlohffaa", sum := "64e9d0f380dfad7f9696b18375fa19415cfcbce59562f94af0907297e8165174", func := "loop.example/plansandpromises/laws.FnExactLengthOf", spec := "fnExactLengthOf", unfollowed := true, recurses := true, apart := false, narrowed := true }
def FnExactLengthOfUptoSaid : Prop := fnExactLengthOfUptoRow.holds Try.pinned (OpenSpec.upto fnExactLengthOfSpec)

/-- 'laws.FnEarlyOf', WHERE WHAT IT READS IS OF BULK AT MOST 1048576: true; the input reads as it did. -/
def fnEarlyOfUptoRow : OpenClaim := { program := "ytllicgomlohffaa", sum := "64e9d0f380dfad7f9696b18375fa19415cfcbce59562f94af0907297e8165174", func := "loop.example/plansandpromises/laws.FnEarlyOf", spec := "fnEarlyOf", unfollowed := true, recurses := true, apart := false, narrowed := true }
def FnEarlyOfUptoSaid : Prop := fnEarlyOfUptoRow.holds Try.pinned (OpenSpec.upto fnEarlyOfSpec)

/-- 'laws.FnLengthOf', WHERE WHAT IT READS IS OF BULK AT MOST 1048576: true; the input reads as it did. -/
def fnLengthOfUptoRow : OpenClaim := { program := "ytllicgomlohffaa", sum := "64e9d0f380dfad7f9696b18375fa19415cfcbce59562f94af0907297e8165174", func := "loop.example/plansandpromises/laws.FnLengthOf", spec := "fnLengthOf", unfollowed := true, recurses := true, apart := false, narrowed := true }
def FnLengthOfUptoSaid : Prop := fnLengthOfUptoRow.holds Try.pinned (OpenSpec.upto fnLengthOfSpec)

/-- 'laws.FnExactEarlyOf', WHERE WHAT IT READS IS OF BULK AT MOST 1048576: true; the input reads as it did. -/
def fnExactEarlyOfUptoRow : OpenClaim := { program := "ytllicgomlohffaa", sum := "64e9d0f380dfad7f9696b18375fa19415cfcbce59562f94af0907297e8165174", func := "loop.example/plansandpromises/laws.FnExactEarlyOf", spec := "fnExactEarlyOf", unfollowed := true, recurses := true, apart := false, narrowed := true }
def FnExactEarlyOfUptoSaid : Prop := fnExactEarlyOfUptoRow.holds Try.pinned (OpenSpec.upto fnExactEarlyOfSpec)

/-- 'laws.FnExactLateOf', WHERE WHAT IT READS IS OF BULK AT MOST 1048576: true; the input reads as it did. -/
def fnExactLateOfUptoRow : OpenClaim := { program := "ytllicgomlohffaa", sum := "64e9d0f380dfad7f9696b18375fa19415cfcbce59562f94af0907297e8165174", func := "loop.example/plansandpromises/laws.FnExactLateOf", spec := "fnExactLateOf", unfollowed := true, recurses := true, apart := false, narrowed := true }
def FnExactLateOfUptoSaid : Prop := fnExactLateOfUptoRow.holds Try.pinned (OpenSpec.upto fnExactLateOfSpec)

/-- 'laws.FnLateOf', WHERE WHAT IT READS IS OF BULK AT MOST 1048576: true; the input reads as it did. -/
def fnLateOfUptoRow : OpenClaim := { program := "ytllicgomlohffaa", sum := "64e9d0f380dfad7f9696b18375fa19415cfcbce59562f94af0907297e8165174", func := "loop.example/plansandpromises/laws.FnLateOf", spec := "fnLateOf", unfollowed := true, recurses := true, apart := false, narrowed := true }
def FnLateOfUptoSaid : Prop := fnLateOfUptoRow.holds Try.pinned (OpenSpec.upto fnLateOfSpec)

/-- 'laws.FnExactSparesOf', WHERE WHAT IT READS IS OF BULK AT MOST 1048576: true; the input reads as it did. -/
def fnExactSparesOfUptoRow : OpenClaim := { program := "ytllicgomlohffaa", sum := "64e9d0f380dfad7f9696b18375fa19415cfcbce59562f94af0907297e8165174", func := "loop.example/plansandpromises/laws.FnExactSparesOf", spec := "fnExactSparesOf", unfollowed := true, recurses := true, apart := false, narrowed := true }
def FnExactSparesOfUptoSaid : Prop := fnExactSparesOfUptoRow.holds Try.pinned (OpenSpec.upto fnExactSparesOfSpec)

/-- 'laws.FnSparesOf', WHERE WHAT IT READS IS OF BULK AT MOST 1048576: true; the input reads as it did. -/
def fnSparesOfUptoRow : OpenClaim := { program := "ytllicgomlohffaa", sum := "64e9d0f380dfad7f9696b18375fa19415cfcbce59562f94af0907297e8165174", func := "loop.example/plansandpromises/laws.FnSparesOf", spec := "fnSparesOf", unfollowed := true, recurses := true, apart := false, narrowed := true }
def FnSparesOfUptoSaid : Prop := fnSparesOfUptoRow.holds Try.pinned (OpenSpec.upto fnSparesOfSpec)

/-- 'laws.FnExactChainOf', WHERE WHAT IT READS IS OF BULK AT MOST 1048576: true; the input reads as it did. -/
def fnExactChainOfUptoRow : OpenClaim := { program := "ytllicgomlohffaa", sum := "64e9d0f380dfad7f9696b18375fa19415cfcbce59562f94af0907297e8165174", func := "loop.example/plansandpromises/laws.FnExactChainOf", spec := "fnExactChainOf", unfollowed := true, recurses := true, apart := false, narrowed := true }
def FnExactChainOfUptoSaid : Prop := fnExactChainOfUptoRow.holds Try.pinned (OpenSpec.upto fnExactChainOfSpec)

/-- 'laws.FnChainOf', WHERE WHAT IT READS IS OF BULK AT MOST 1048576: true; the input reads as it did. -/
def fnChainOfUptoRow : OpenClaim := { program := "ytllicgomlohffaa", sum := "64e9d0f380dfad7f9696b18375fa19415cfcbce59562f94af0907297e8165174", func := "loop.example/plansandpromises/laws.FnChainOf", spec := "fnChainOf", unfollowed := true, recurses := true, apart := false, narrowed := true }
def FnChainOfUptoSaid : Prop := fnChainOfUptoRow.holds Try.pinned (OpenSpec.upto fnChainOfSpec)

/-- 'laws.FnExactPlanOfProject', WHERE WHAT IT READS IS OF BULK AT MOST 1048576: true; the input reads as it did. -/
def fnExactPlanOfProjectUptoRow : OpenClaim := { program := "ytllicgomlohffaa", sum := "64e9d0f380dfad7f9696b18375fa19415cfcbce59562f94af0907297e8165174", func := "loop.example/plansandpromises/laws.FnExactPlanOfProject", spec := "fnExactPlanOfProject", unfollowed := true, recurses := true, apart := false, narrowed := true }
def FnExactPlanOfProjectUptoSaid : Prop := fnExactPlanOfProjectUptoRow.holds Try.pinned (OpenSpec.upto fnExactPlanOfProjectSpec)

end Rows
end Go.Proofs.Ytllicgomlohffaa
