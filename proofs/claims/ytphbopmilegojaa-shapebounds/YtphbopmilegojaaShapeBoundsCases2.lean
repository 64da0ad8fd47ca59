/- Some cases of 'ShapeBounds', checked. No condition. -/
import Derived.Test.YtphbopmilegojaaShapeBoundsCases
namespace Go.Proofs.Ytphbopmilegojaa.law
open Eva Go.RowKit
theorem rows3 : fromK row 3 1 = true := by kernel_rfl
theorem rows4 : fromK row 4 1 = true := by kernel_rfl
end Go.Proofs.Ytphbopmilegojaa.law
