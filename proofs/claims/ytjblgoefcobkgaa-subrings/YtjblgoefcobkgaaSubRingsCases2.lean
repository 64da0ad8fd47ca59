/- Some cases of 'SubRings', checked. No condition. -/
import Derived.Test.YtjblgoefcobkgaaSubRingsCases
namespace Go.Proofs.Ytjblgoefcobkgaa.law
open Eva Go.RowKit
theorem rows2 : fromK row 2 1 = true := by kernel_rfl
theorem rows3 : fromK row 3 1 = true := by kernel_rfl
end Go.Proofs.Ytjblgoefcobkgaa.law
