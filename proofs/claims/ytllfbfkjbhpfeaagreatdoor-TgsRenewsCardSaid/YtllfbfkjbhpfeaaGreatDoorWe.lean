/- One closed call: the sealed authenticator, opened. -/
import Derived.Test.YtllfbfkjbhpfeaaGreatDoorWa
import Derived.KernelRfl
set_option linter.unusedSimpArgs false
set_option linter.unusedVariables false
set_option linter.unusedSectionVars false
namespace Go.Dm.T
open Go.Dm
set_option maxRecDepth 1000000
theorem e_mOpen : callH (hotM [mE1, mE2]) DT 30 mOpen.f mOpen.args [] = some (mOpen.r, mOpen.os) := by kernel_rfl
end Go.Dm.T
