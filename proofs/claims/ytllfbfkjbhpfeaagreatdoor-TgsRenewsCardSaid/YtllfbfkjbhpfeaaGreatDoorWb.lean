/- One closed call: the first key. -/
import Derived.Test.YtllfbfkjbhpfeaaGreatDoorWa
import Derived.KernelRfl
set_option linter.unusedSimpArgs false
set_option linter.unusedVariables false
set_option linter.unusedSectionVars false
namespace Go.Dm.T
open Go.Dm
set_option maxRecDepth 1000000
theorem e_mE1 : callH (hotM []) DT 30 mE1.f mE1.args [] = some (mE1.r, mE1.os) := by kernel_rfl
end Go.Dm.T
