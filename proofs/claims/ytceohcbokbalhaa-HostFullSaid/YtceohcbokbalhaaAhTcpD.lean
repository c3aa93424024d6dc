/- A connection sends what it may: on data. Conditions: bounds. -/
import Derived.Test.YtceohcbokbalhaaPkAE
namespace Go.Proofs.Ytceohcbokbalhaa
open Go.RowKit
set_option linter.unusedVariables false
set_option linter.unusedSimpArgs false
set_option maxRecDepth 100000
set_option maxHeartbeats 4000000
end Go.Proofs.Ytceohcbokbalhaa
