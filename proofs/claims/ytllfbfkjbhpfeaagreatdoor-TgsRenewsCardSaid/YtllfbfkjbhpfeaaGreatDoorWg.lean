/- One closed call: the law's fixed example works. -/
import Derived.Test.YtllfbfkjbhpfeaaGreatDoorWa
import Derived.KernelRfl
set_option linter.unusedSimpArgs false
set_option linter.unusedVariables false
set_option linter.unusedSectionVars false
namespace Go.Dm.T
open Go.Dm
set_option maxRecDepth 1000000
theorem e_works : callH (hotM [mAsk, mOpened]) DT 30 n_law28_works [] [] = some (.bool true, []) := by kernel_rfl
end Go.Dm.T
