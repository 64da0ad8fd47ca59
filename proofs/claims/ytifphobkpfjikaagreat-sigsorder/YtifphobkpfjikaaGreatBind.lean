/- 'SigsOrder': its contract, by its number. No condition. -/
import Derived.Test.YtifphobkpfjikaaGreatQ2
namespace Go.Proofs.YtifphobkpfjikaaGreat
open Eva Go.RowKit
theorem law5 :type_of% @orderC:= @orderC
end Go.Proofs.YtifphobkpfjikaaGreat
