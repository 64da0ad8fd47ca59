/- Some cases of 'PipeVars', checked. No condition. -/
import Derived.Test.YtgmgjbdfolclpaaPipeVarsCases
namespace Go.Proofs.Ytgmgjbdfolclpaa.law
open Eva Go.RowKit
set_option linter.unusedVariables false
set_option maxHeartbeats 20000000 in
theorem n0 : one .snil [] [] 0 true = true := by kernel_rfl
set_option maxHeartbeats 20000000 in
theorem z0_ : one (.sl .h 0 0 1) [] [] 0 true = true := by kernel_rfl
set_option maxHeartbeats 20000000 in
theorem s0 : rowS (.sl .h 0 1 1) [.opq 0] 0 true = true := by kernel_rfl
set_option maxHeartbeats 20000000 in
theorem n1 : one .snil [] [] 1 true = true := by kernel_rfl
set_option maxHeartbeats 20000000 in
theorem z1_ : one (.sl .h 0 0 1) [] [] 1 true = true := by kernel_rfl
set_option maxHeartbeats 20000000 in
theorem s1 : rowS (.sl .h 0 1 1) [.opq 0] 1 true = true := by kernel_rfl
end Go.Proofs.Ytgmgjbdfolclpaa.law
