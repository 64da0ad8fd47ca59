/- Some cases of 'ShapeRings', checked. No condition. -/
import Derived.Test.YtphbopmilegojaaShapeRingsCases
namespace Go.Proofs.Ytphbopmilegojaa.law
open Eva Go.RowKit
theorem rows4 : fromK row 4 1 = true := by kernel_rfl
theorem rows5 : fromK row 5 1 = true := by kernel_rfl
end Go.Proofs.Ytphbopmilegojaa.law
