/- Some cases of 'ShapeRings', checked. No condition. -/
import Derived.Test.YtphbopmilegojaaShapeRingsCases
namespace Go.Proofs.Ytphbopmilegojaa.law
open Eva Go.RowKit
theorem rows0 : fromK row 0 1 = true := by kernel_rfl
theorem rows1 : fromK row 1 1 = true := by kernel_rfl
end Go.Proofs.Ytphbopmilegojaa.law
