/- Some cases of 'KindsCounts', checked. No condition. -/
import Derived.Test.YthhmgleopaojiaaKindsCountsCases
namespace Go.Proofs.Ythhmgleopaojiaa.law
open Eva Go.RowKit
theorem rows0 : fromK row 0 4 = true := by kernel_rfl
theorem rows4 : fromK row 4 4 = true := by kernel_rfl
theorem rows8 : fromK row 8 4 = true := by kernel_rfl
end Go.Proofs.Ythhmgleopaojiaa.law
