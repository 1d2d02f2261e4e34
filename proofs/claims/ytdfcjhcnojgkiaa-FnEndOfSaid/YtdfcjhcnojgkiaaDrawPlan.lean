/- The draw of a plan: spec.l20Plan gives some plan of at most 10 bounds, of at most 7 points, in memory of its own. No condition but that the code's bytes can be read. -/
import Derived.Test.YtdfcjhcnojgkiaaDraw
import Derived.Test.YtdfcjhcnojgkiaaTail
import Derived.Deep.DeepCutAuto
namespace Go.Proofs.Ytdfcjhcnojgkiaa
open Go.RowKit
set_option linter.unusedVariables false
set_option linter.unusedSimpArgs false
end Go.Proofs.Ytdfcjhcnojgkiaa
