/- One closed call: the request, opened. -/
import Derived.Test.YtllfbfkjbhpfeaaGreatDoorWa
import Derived.KernelRfl
set_option linter.unusedSimpArgs false
set_option linter.unusedVariables false
set_option linter.unusedSectionVars false
namespace Go.Dm.T
open Go.Dm
set_option maxRecDepth 1000000
theorem e_mOpened : callH (hotM [mOpen]) DT 30 mOpened.f mOpened.args [] = some (mOpened.r, mOpened.os) := by kernel_rfl
end Go.Dm.T
