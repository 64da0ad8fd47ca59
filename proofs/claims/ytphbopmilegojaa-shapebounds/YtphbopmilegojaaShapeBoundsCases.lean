/- The cases of 'ShapeBounds', each to be checked. No condition. -/
import Derived.Test.YtphbopmilegojaaShapeBoundsCode
namespace Go.Proofs.Ytphbopmilegojaa.law
open Eva Go.RowKit
noncomputable def one (k0 : Nat) (k1 : Nat) : Bool := check (tab (hypOf 0 [5] k0 ++ hypOf 1 [4] k1)) 1000 6 [.opq 0, .opq 1]
noncomputable def row (k0 : Nat) : Bool := allK (fun k1 => one k0 k1) 4
end Go.Proofs.Ytphbopmilegojaa.law
