/- Some cases of 'SubCounts', checked. No condition. -/
import Derived.Test.YtjblgoefcobkgaaSubCountsCases
namespace Go.Proofs.Ytjblgoefcobkgaa.law
open Eva Go.RowKit
theorem rows4 : fromK row 4 1 = true := by kernel_rfl
theorem rows5 : fromK row 5 1 = true := by kernel_rfl
end Go.Proofs.Ytjblgoefcobkgaa.law
