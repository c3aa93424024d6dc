/- Closed facts on the types, as the walk on data is given them. No condition. -/
import Derived.Test.YthkjiihphdpagaaProg
import Derived.Test.YthkjiihphdpagaaAhiC
namespace Go.Proofs.Ythkjiihphdpagaa
set_option linter.unusedVariables false
theorem mixed : Try.prog.follows .mixedOrders = true := by kernel_rfl
theorem flat31 : flatK Try.prog 31 = some [.b, .i, .i, .i] := by kernel_rfl
end Go.Proofs.Ythkjiihphdpagaa
