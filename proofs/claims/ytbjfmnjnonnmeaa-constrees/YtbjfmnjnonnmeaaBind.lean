/- 'ConsTrees': its contract, by its number. No condition. -/
import Derived.Test.YtbjfmnjnonnmeaaQ5
namespace Go.Proofs.Ytbjfmnjnonnmeaa
open Eva Go.RowKit
theorem law4 : type_of% @treesL := @treesL
end Go.Proofs.Ytbjfmnjnonnmeaa
