/- Closed facts on the types, as the walk on data is given them. No condition. -/
import Derived.Test.YtjmjnndmpeeppaaProg
import Derived.Test.YtjmjnndmpeeppaaAhiC
namespace Go.Proofs.Ytjmjnndmpeeppaa
set_option linter.unusedVariables false

theorem mixed : Try.prog.follows .mixedOrders = true := by kernel_rfl
theorem leaf4 : leafK Try.prog 4 = some .b := by kernel_rfl
theorem flat64 : flatK Try.prog 64 = some [.i, .i, .i] := by kernel_rfl
theorem flat74 : flatK Try.prog 74 = some [.i, .i, .i] := by kernel_rfl
theorem flat82 : flatK Try.prog 82 = some [.b, .i, .i, .i, .i] := by kernel_rfl
end Go.Proofs.Ytjmjnndmpeeppaa
