/- Some cases of 'KindsNumbers', checked. No condition. -/
import Derived.Test.YthhmgleopaojiaaKindsNumbersCases
namespace Go.Proofs.Ythhmgleopaojiaa.law
open Eva Go.RowKit
theorem rows15 : fromK row 15 1 = true := by kernel_rfl
theorem rows16 : fromK row 16 1 = true := by kernel_rfl
theorem rows17 : fromK row 17 1 = true := by kernel_rfl
theorem rows18 : fromK row 18 1 = true := by kernel_rfl
theorem rows19 : fromK row 19 1 = true := by kernel_rfl
end Go.Proofs.Ythhmgleopaojiaa.law
