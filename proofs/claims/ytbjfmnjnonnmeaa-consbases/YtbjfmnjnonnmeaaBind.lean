/- 'ConsBases': its contract, by its number. No condition. -/
import Derived.Test.YtbjfmnjnonnmeaaQ5
namespace Go.Proofs.Ytbjfmnjnonnmeaa
open Eva Go.RowKit
theorem law6 : type_of% @basesL := @basesL
end Go.Proofs.Ytbjfmnjnonnmeaa
