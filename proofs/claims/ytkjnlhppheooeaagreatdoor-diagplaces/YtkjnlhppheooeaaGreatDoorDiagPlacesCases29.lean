/- Some cases of 'DiagPlaces', checked. No condition. -/
import Derived.Test.YtkjnlhppheooeaaGreatDoorDiagPlacesCases
namespace Go.Proofs.YtkjnlhppheooeaaGreatDoor.law
open Eva Go.RowKit
set_option linter.unusedVariables false
set_option maxHeartbeats 20000000 in
theorem rows28 : fromN row 28 1 true = true := by kernel_rfl
end Go.Proofs.YtkjnlhppheooeaaGreatDoor.law
