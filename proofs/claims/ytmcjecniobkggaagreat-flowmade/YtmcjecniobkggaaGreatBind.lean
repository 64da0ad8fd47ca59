/- 'FlowMade': its contract, by its number. No condition. -/
import Derived.Test.YtmcjecniobkggaaGreatQ10
set_option linter.constructorNameAsVariable false
namespace Go.Proofs.YtmcjecniobkggaaGreat
open Eva Go.RowKit
theorem law3 :type_of% @Jr2:= @Jr2
end Go.Proofs.YtmcjecniobkggaaGreat
