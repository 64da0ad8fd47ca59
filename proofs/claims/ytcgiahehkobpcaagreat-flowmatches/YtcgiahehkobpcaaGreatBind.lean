/- 'FlowMatches': its contract, by its number. No condition. -/
import Derived.Test.YtcgiahehkobpcaaGreatQ3
namespace Go.Proofs.YtcgiahehkobpcaaGreat
open Eva Go.RowKit
theorem law3 :type_of% @Jgs:= @Jgs
end Go.Proofs.YtcgiahehkobpcaaGreat
