/- Closed facts on the types, as the walk on data is given them. No condition. -/
import Derived.Test.YtceohcbokbalhaaGreatProg
import Derived.Test.YtceohcbokbalhaaGreatAhiC
namespace Go.Proofs.YtceohcbokbalhaaGreat
set_option linter.unusedVariables false
theorem af:Tryz.prog.follows .mixedOrders=true:=by kernel_rfl
theorem mK:iG Tryz.prog 4=some .b:=by kernel_rfl
theorem nz:lq Tryz.prog 48=some [.b,.i,.i,.i]:=by kernel_rfl
end Go.Proofs.YtceohcbokbalhaaGreat