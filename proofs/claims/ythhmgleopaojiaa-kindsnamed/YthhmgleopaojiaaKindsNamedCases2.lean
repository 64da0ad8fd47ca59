/- Some cases of 'KindsNamed', checked. No condition. -/
import Derived.Test.YthhmgleopaojiaaKindsNamedCases
namespace Go.Proofs.Ythhmgleopaojiaa.law
open Eva Go.RowKit
theorem rows3 : fromK row 3 1 = true := by kernel_rfl
theorem rows4 : fromK row 4 1 = true := by kernel_rfl
theorem rows5 : fromK row 5 1 = true := by kernel_rfl
end Go.Proofs.Ythhmgleopaojiaa.law
