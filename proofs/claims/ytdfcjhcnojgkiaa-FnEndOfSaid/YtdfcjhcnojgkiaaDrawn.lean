/- The draws of plans: what spec.DrawTurnedPlan and its like give: some plan of at most 10 bounds. No condition but that the code's bytes can be read. -/
import Derived.Test.YtdfcjhcnojgkiaaDrawPlan
namespace Go.Proofs.Ytdfcjhcnojgkiaa
open Go.RowKit
set_option linter.unusedVariables false
set_option linter.unusedSimpArgs false
end Go.Proofs.Ytdfcjhcnojgkiaa
