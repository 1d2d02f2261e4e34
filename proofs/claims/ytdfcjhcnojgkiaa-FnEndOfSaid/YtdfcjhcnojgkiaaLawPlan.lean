/- The walks of the helpers of the exact laws on plans: copies of the arguments, equality, marks. Conditions: at most 1048576 bounds. -/
import Derived.Test.YtdfcjhcnojgkiaaPlanOk
namespace Go.Proofs.Ytdfcjhcnojgkiaa
open Go.RowKit
set_option linter.unusedVariables false
set_option linter.unusedSimpArgs false
def szR (left : Int) (n : Nat) : Int := if left - n < 0 then -1 else left - n
end Go.Proofs.Ytdfcjhcnojgkiaa
