/- Closed facts on the types, as the walk on data is given them. No condition. -/
import Derived.Test.YtceohcbokbalhaaProg
import Derived.Test.YtceohcbokbalhaaAhiC
namespace Go.Proofs.Ytceohcbokbalhaa
set_option linter.unusedVariables false
theorem mixed : Try.prog.follows .mixedOrders = true := by kernel_rfl
theorem flat48 : flatK Try.prog 48 = some [.b, .i, .i, .i] := by kernel_rfl
end Go.Proofs.Ytceohcbokbalhaa
