/- 'ShapeFinite': its contract, by its number. No condition. -/
import Derived.Test.YtjdphbjnoblnaaaQ4
namespace Go.Proofs.Ytjdphbjnoblnaaa
open Eva Go.RowKit
theorem law4 : type_of% @finiteL := @finiteL
end Go.Proofs.Ytjdphbjnoblnaaa
