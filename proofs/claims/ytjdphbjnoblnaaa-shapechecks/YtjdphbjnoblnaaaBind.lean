/- 'ShapeChecks': its contract, by its number. No condition. -/
import Derived.Test.YtjdphbjnoblnaaaQ4
namespace Go.Proofs.Ytjdphbjnoblnaaa
open Eva Go.RowKit
theorem law3 : type_of% @checksL := @checksL
end Go.Proofs.Ytjdphbjnoblnaaa
