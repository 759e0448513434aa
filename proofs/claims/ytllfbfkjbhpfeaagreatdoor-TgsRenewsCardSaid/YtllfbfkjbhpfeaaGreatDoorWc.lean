/- One closed call: the second key. -/
import Derived.Test.YtllfbfkjbhpfeaaGreatDoorWa
import Derived.KernelRfl
set_option linter.unusedSimpArgs false
set_option linter.unusedVariables false
set_option linter.unusedSectionVars false
namespace Go.Dm.T
open Go.Dm
set_option maxRecDepth 1000000
theorem e_mE2 : callH (hotM []) DT 30 mE2.f mE2.args [] = some (mE2.r, mE2.os) := by kernel_rfl
end Go.Dm.T
