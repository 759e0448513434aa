/- One closed call: the request. -/
import Derived.Test.YtllfbfkjbhpfeaaGreatDoorWa
import Derived.KernelRfl
set_option linter.unusedSimpArgs false
set_option linter.unusedVariables false
set_option linter.unusedSectionVars false
namespace Go.Dm.T
open Go.Dm
set_option maxRecDepth 1000000
theorem e_mAsk : callH (hotM [mE1, mE2]) DT 30 mAsk.f mAsk.args [] = some (mAsk.r, mAsk.os) := by kernel_rfl
end Go.Dm.T
