/- Some cases of 'KindsNamed', checked. No condition. -/
import Derived.Test.YthhmgleopaojiaaKindsNamedCases
namespace Go.Proofs.Ythhmgleopaojiaa.law
open Eva Go.RowKit
theorem rows0 : fromK row 0 1 = true := by kernel_rfl
theorem rows1 : fromK row 1 1 = true := by kernel_rfl
theorem rows2 : fromK row 2 1 = true := by kernel_rfl
end Go.Proofs.Ythhmgleopaojiaa.law
