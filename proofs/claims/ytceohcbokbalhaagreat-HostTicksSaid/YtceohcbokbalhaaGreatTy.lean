/- Closed facts on the types, as the walk on data is given them. No condition. -/
import Derived.Test.YtceohcbokbalhaaGreatProg
import Derived.Test.YtceohcbokbalhaaGreatAhiC
namespace Go.Proofs.YtceohcbokbalhaaGreat
set_option linter.unusedVariables false
theorem mixed:Tryz.prog.follows .mixedOrders=true:=by kernel_rfl
theorem leaf4:leafK Tryz.prog 4=some .b:=by kernel_rfl
theorem flat48:flatK Tryz.prog 48=some [.b,.i,.i,.i]:=by kernel_rfl
end Go.Proofs.YtceohcbokbalhaaGreat