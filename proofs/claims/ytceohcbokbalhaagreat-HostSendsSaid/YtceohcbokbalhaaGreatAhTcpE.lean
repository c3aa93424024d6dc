/- A connection sends what it may, its bytes a list: on data. Conditions: bounds. -/
import Derived.Test.YtceohcbokbalhaaGreatPkAG
namespace Go.Proofs.YtceohcbokbalhaaGreat
open Go.RowKit
set_option linter.unusedVariables false
set_option linter.unusedSimpArgs false
set_option maxRecDepth 100000
set_option maxHeartbeats 4000000
end Go.Proofs.YtceohcbokbalhaaGreat
