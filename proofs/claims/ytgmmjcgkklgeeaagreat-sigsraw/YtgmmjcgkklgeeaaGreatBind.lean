/- 'SigsRaw': its contract, by its number. No condition. -/
import Derived.Test.YtgmmjcgkklgeeaaGreatQ7
namespace Go.Proofs.YtgmmjcgkklgeeaaGreat
open Eva Go.RowKit
theorem law3 :type_of% @rawL:= @rawL
end Go.Proofs.YtgmmjcgkklgeeaaGreat
