/- Some cases of 'KindsNumbers', checked. No condition. -/
import Derived.Test.YthhmgleopaojiaaKindsNumbersCases
namespace Go.Proofs.Ythhmgleopaojiaa.law
open Eva Go.RowKit
theorem rows25 : fromK row 25 1 = true := by kernel_rfl
theorem rows26 : fromK row 26 1 = true := by kernel_rfl
theorem rows27 : fromK row 27 1 = true := by kernel_rfl
theorem rows28 : fromK row 28 1 = true := by kernel_rfl
theorem rows29 : fromK row 29 1 = true := by kernel_rfl
end Go.Proofs.Ythhmgleopaojiaa.law
