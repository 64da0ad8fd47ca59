/- Some cases of 'TextQuotes', checked. No condition. -/
import Derived.Test.YtfcdghdipkgpfaaTextQuotesCases
namespace Go.Proofs.Ytfcdghdipkgpfaa.law
open Eva Go.RowKit
theorem rows0 : fromK row 0 3 = true := by kernel_rfl
theorem rows3 : fromK row 3 3 = true := by kernel_rfl
theorem rows6 : fromK row 6 3 = true := by kernel_rfl
theorem rows9 : fromK row 9 3 = true := by kernel_rfl
end Go.Proofs.Ytfcdghdipkgpfaa.law
