/- Some cases of 'PipeVars', checked. No condition. -/
import Derived.Test.YtgmgjbdfolclpaaPipeVarsCases
namespace Go.Proofs.Ytgmgjbdfolclpaa.law
open Eva Go.RowKit
set_option linter.unusedVariables false
set_option maxHeartbeats 20000000 in
theorem m10_0 : rowM (.sl .h 0 10 1) [.opq 0, .opq 1, .opq 2, .opq 3, .opq 4, .opq 5, .opq 6, .opq 7, .opq 8, .opq 9] 9 8 0 true = true := by kernel_rfl
set_option maxHeartbeats 20000000 in
theorem m10_1 : rowM (.sl .h 0 10 1) [.opq 0, .opq 1, .opq 2, .opq 3, .opq 4, .opq 5, .opq 6, .opq 7, .opq 8, .opq 9] 9 8 1 true = true := by kernel_rfl
end Go.Proofs.Ytgmgjbdfolclpaa.law
