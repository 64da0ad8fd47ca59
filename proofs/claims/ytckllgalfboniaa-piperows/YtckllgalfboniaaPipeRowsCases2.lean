/- Some cases of 'PipeRows', checked. No condition. -/
import Derived.Test.YtckllgalfboniaaPipeRowsCases
namespace Go.Proofs.Ytckllgalfboniaa.law
open Eva Go.RowKit
set_option linter.unusedVariables false
set_option maxHeartbeats 20000000 in
theorem rows22 : fromN row 22 11 true = true := by kernel_rfl
set_option maxHeartbeats 20000000 in
theorem rows33 : fromN row 33 8 true = true := by kernel_rfl
end Go.Proofs.Ytckllgalfboniaa.law
