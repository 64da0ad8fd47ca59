/- Some cases of 'PipeVars', checked. No condition. -/
import Derived.Test.YtgmgjbdfolclpaaPipeVarsCases
namespace Go.Proofs.Ytgmgjbdfolclpaa.law
open Eva Go.RowKit
set_option linter.unusedVariables false
set_option maxHeartbeats 20000000 in
theorem m2_0 : rowM (.sl .h 0 2 1) [.opq 0, .opq 1] 1 0 0 true = true := by kernel_rfl
set_option maxHeartbeats 20000000 in
theorem m2_1 : rowM (.sl .h 0 2 1) [.opq 0, .opq 1] 1 0 1 true = true := by kernel_rfl
end Go.Proofs.Ytgmgjbdfolclpaa.law
