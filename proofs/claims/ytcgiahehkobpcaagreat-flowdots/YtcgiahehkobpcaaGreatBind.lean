/- 'FlowDots': its contract, by its number. No condition. -/
import Derived.Test.YtcgiahehkobpcaaGreatQ6
namespace Go.Proofs.YtcgiahehkobpcaaGreat
open Eva Go.RowKit
theorem law4 :type_of% @dotsC:= @dotsC
end Go.Proofs.YtcgiahehkobpcaaGreat
